/- simple.Decide (printed by gen_simdecide.py). crupperref13.Satisfies, In: as walks (printed by gen_ref13.py). Light of texts, told whole. Light of queries and policies, with the lengths of the queries' roles (turned by gen_lights.py). crupperlaw13.Small. crupperlaw13.lives. The statement SimpleSatisfies: the walk of the law (printed by gen_law13t.py). Roles and statements among a law's arguments: opened to data, and read again in a later world. Rows of statements among a law's arguments: opened. Policies among a law's arguments: opened. What the proofs of tied cards over math/bits.deBruijn64tab share: the world of the witness, the table's cells, roles and queries opened. -/
import Derived.Test.YtcmdhfccdkjenaaGreatDoorPart19
import Derived.Test.YtcmdhfccdkjenaaGreatDoorPart12
import Derived.Test.YtcmdhfccdkjenaaGreatDoorPart17
import Derived.Test.YtcmdhfccdkjenaaGreatDoorPart5
import Derived.ProofKit
import Derived.OpenShut
import Derived.ChangeMaps5
import Derived.Deep.Strs
import Derived.Test.YtcmdhfccdkjenaaGreatDoorPart3
import Derived.Deep.Slices
import Derived.Test.YtcmdhfccdkjenaaGreatDoorCards
import Derived.Test.YtcmdhfccdkjenaaGreatDoorTie
import Derived.Test.YtcmdhfccdkjenaaGreatDoorPart13
import Derived.Lay
import Derived.Deep.DeepHandedRow
import Derived.Lib.LaidTab
import Derived.Shelf.Strings.Shaped
import Derived.HandedShaped
namespace Go.Proofs.YtcmdhfccdkjenaaGreatDoor
open Go.RowKit Go.Shelf

set_option maxRecDepth 100000 in
set_option maxHeartbeats 8000000 in
theorem sim_Decide2 (v0 v1 v2 v3 : Value) (l : List St) (g h : List Rl) (qs : List Qv) (q : Qv) (us PS NS : List ByteArray) (w : World) (P : SimIn w v0 v1 v2 v3 l g h qs q us PS NS) (hk : q.k = 2) :
    Calls Tryz.prog 28 #[pv v0 v1 v2 v3, qv q] w fun e w' => DecP (maxS l g PS NS) q us e w' ∧ Below w.heap.size w w' := by
  have HP := Lib.hid P
  obtain ⟨a0, c0, rfl⟩ := P.at_.rs.form
  obtain ⟨a1, c1, rfl⟩ := P.at_.rg.form
  obtain ⟨a2, c2, rfl⟩ := P.at_.rh.form
  obtain ⟨a3, c3, rfl⟩ := P.at_.rq.form
  obtain ⟨xk, ⟨x1, x2⟩, ⟨x3, x4⟩, wv⟩ := q
  dsimp only at hk
  obtain ⟨wo, wc, e1⟩ := P.hu.form
  dsimp only at e1
  subst hk e1
  clear P
  have HT := Lib.hid (show TriAt w #[.slice a0 l.length c0, .slice a1 g.length c1, .slice a2 h.length c2, .slice a3 qs.length c3] #[.int .i64 2, .string x1, .string x2, .string x3, .string x4, .slice wo us.length wc] #[.int .i64 0, .slice none 0 0, .int .i64 0, .int .i64 0] (((w.alloc (.cells #[.slice a0 l.length c0, .slice a1 g.length c1, .slice a2 h.length c2, .slice a3 qs.length c3] 26)).alloc (.cells #[.int .i64 2, .string x1, .string x2, .string x3, .string x4, .slice wo us.length wc] 45)).alloc (.cells #[.int .i64 0, .slice none 0 0, .int .i64 0, .int .i64 0] 48))
    from TriAt.new w _ _ _ _ _ _)
  go_enter Tryz.func28, Tryz.ntmps28
  go_upto_region 1 with fail
  obtain ⟨wk, hwk⟩ : ∃ W, W = (((w.alloc (.cells #[.slice a0 l.length c0, .slice a1 g.length c1, .slice a2 h.length c2, .slice a3 qs.length c3] 26)).alloc (.cells #[.int .i64 2, .string x1, .string x2, .string x3, .string x4, .slice wo us.length wc] 45)).alloc (.cells #[.int .i64 0, .slice none 0 0, .int .i64 0, .int .i64 0] 48)) := ⟨_, rfl⟩
  rw [← hwk] at HT ⊢
  clear hwk
  obtain ⟨ca, fa, za⟩ := HT.out.a
  obtain ⟨cb, fb, zb⟩ := HT.out.b
  go_wp2_with fail
  refine (sim_Only (.slice a0 l.length c0) (.slice a1 g.length c1) (.slice a2 h.length c2) (.slice a3 qs.length c3) l g h qs ⟨2, ⟨x1, x2⟩, ⟨x3, x4⟩, .slice wo us.length wc⟩ wk (HP.out.at_.below HT.out.low)).mono ?_
  rintro e w1 ⟨vq, rfl, hvq, hb1⟩
  obtain ⟨qa, qc, rfl⟩ := hvq.form
  have HT := Lib.hid (HT.out.later hb1)
  have HQ := Lib.hid hvq
  clear hvq hb1 ca fa za cb fb zb
  obtain ⟨ca, fa, za⟩ := HT.out.a
  go_upto_region 2 with fail
  obtain ⟨w2, hw2⟩ : ∃ W, W = puts w1 w.heap.size 0 [.slice a0 l.length c0, .slice a1 g.length c1, .slice a2 h.length c2, .slice qa 1 qc] := ⟨_, rfl⟩
  have hch : ((((w1.setCell ⟨w.heap.size, 0, none⟩ (.slice a0 l.length c0)).setCell ⟨w.heap.size, 1, none⟩ (.slice a1 g.length c1)).setCell ⟨w.heap.size, 2, none⟩ (.slice a2 h.length c2)).setCell ⟨w.heap.size, 3, none⟩ (.slice qa 1 qc)) = w2 := hw2.symm
  rw [hch]
  have HQ := Lib.hid (HQ.out.putsBlk [.slice a0 l.length c0, .slice a1 g.length c1, .slice a2 h.length c2, .slice qa 1 qc] 0 w1 _ HT.out.a (by simp) (by simp))
  have HT := Lib.hid (HT.out.putsA (.slice a0 l.length c0) (.slice a1 g.length c1) (.slice a2 h.length c2) (.slice qa 1 qc))
  rw [← hw2] at HQ HT
  clear hch hw2 ca fa za
  obtain ⟨ca, fa, za⟩ := HT.out.a
  obtain ⟨cb, fb, zb⟩ := HT.out.b
  go_wp2_with fail
  refine (sim_Right HP.out HT.out.low HQ.out).mono ?_
  rintro e w3 ⟨rfl, hb3⟩
  have HQ := Lib.hid (HQ.out.below hb3)
  have HT := Lib.hid (HT.out.later hb3)
  clear hb3 ca fa za cb fb zb
  obtain ⟨cb, fb, zb⟩ := HT.out.b
  go_wp2_with fail
  refine (sim_IsT HP.out HT.out.low).mono ?_
  rintro e w4 ⟨rfl, hb4⟩
  have HQ := Lib.hid (HQ.out.below hb4)
  have HT := Lib.hid (HT.out.later hb4)
  clear hb4 cb fb zb
  obtain ⟨ca, fa, za⟩ := HT.out.a
  obtain ⟨cb, fb, zb⟩ := HT.out.b
  go_wp2_with fail
  refine (sim_HighEval HP.out HT.out.low HQ.out).mono ?_
  rintro e w5 ⟨t, M, fs, st, rfl, ht, hb5⟩
  have hsm : SameM (putX PS) NS (maxS l g PS NS) := (HP.out.polx HT.out.low HQ.out).highM HP.out.h6 HP.out.h4
  have HQ := Lib.hid (HQ.out.below hb5)
  have HT := Lib.hid (HT.out.later hb5)
  have HM := Lib.hid ht
  have HS := Lib.hid hsm
  clear hb5 ca fa za cb fb zb ht hsm
  obtain ⟨ps, hps⟩ := least_ex (maxS l g PS NS)
  have SAT := Lib.hid (sim_Sat HP.out HT.out.low HM.out HS.out hps)
  have HL := Lib.hid hps
  obtain ⟨ok, hok⟩ : ∃ b, b = satQ (membersP ps) ⟨2, ⟨x1, x2⟩, ⟨x3, x4⟩, .slice wo us.length wc⟩ us := ⟨_, rfl⟩
  rw [← hok] at SAT
  have HOK := Lib.hid hok
  clear hps hok
  obtain ⟨cb, fb, zb⟩ := HT.out.b
  go_wp2_with fail
  refine SAT.out.mono ?_
  rintro e w6 ⟨rfl, hb6⟩
  have HQ := Lib.hid (HQ.out.below hb6)
  have HT := Lib.hid (HT.out.later hb6)
  have HM := Lib.hid (HM.out.below hb6)
  clear hb6 cb fb zb SAT HS
  obtain ⟨F5, W0, g0, hm⟩ := HM.out.mod
  have ST := Lib.hid (model_Steps hm)
  clear hm
  go_wp2_with fail
  refine ST.out.mono ?_
  rintro e w7 ⟨rfl, rfl⟩
  clear ST
  obtain ⟨cc, fc, zc⟩ := HT.out.c
  go_upto_region 11 with fail
  have HQ := Lib.hid (HQ.out.setBlk (o := 2) (x := .int .i64 st) HT.out.c (by simp))
  have HT := Lib.hid (show TriAt w _ _ #[.int .i64 0, .slice none 0 0, .int .i64 st, .int .i64 0] _ from HT.out.setC (o := 2) (v := .int .i64 st) (by simp))
  clear cc fc zc
  obtain ⟨w8, hw8⟩ : ∃ W, W = w7.setCell ⟨w.heap.size + 1 + 1, 2, none⟩ (.int .i64 st) := ⟨_, rfl⟩
  rw [← hw8] at HQ HT ⊢
  clear hw8 HM
  obtain ⟨cb, fb, zb⟩ := HT.out.b
  go_wp2_with fail
  refine (sim_Univ (k := 2) (b := false) rfl w8).mono ?_
  rintro e w9 ⟨rfl, rfl⟩
  cases ok with
  | false =>
    go_wp2_with fail
    refine (sim_Univ (k := 2) (b := false) rfl w9).mono ?_
    rintro e w10 ⟨rfl, rfl⟩
    obtain ⟨cc, fc, zc⟩ := HT.out.c
    go_upto_region 17 with fail
    have HT := Lib.hid (show TriAt w _ _ #[.int .i64 4, .slice none 0 0, .int .i64 st, .int .i64 0] _ from HT.out.setC (o := 0) (v := .int .i64 4) (by simp))
    clear cc fc zc
    obtain ⟨wx, hwx⟩ : ∃ W, W = w10.setCell ⟨w.heap.size + 1 + 1, 0, none⟩ (.int .i64 4) := ⟨_, rfl⟩
    rw [← hwx] at HT ⊢
    clear hwx
    obtain ⟨cc, fc, zc⟩ := HT.out.c
    go_wp2
    obtain ⟨wy, hwy⟩ : ∃ W, W = puts wx (w.heap.size + 1 + 1) 0 [.int .i64 4, .slice none 0 0, .int .i64 st, .int .i64 0] := ⟨_, rfl⟩
    have hch : ((((wx.setCell ⟨w.heap.size + 1 + 1, 0, none⟩ (.int .i64 4)).setCell ⟨w.heap.size + 1 + 1, 1, none⟩ (.slice none 0 0)).setCell ⟨w.heap.size + 1 + 1, 2, none⟩ (.int .i64 st)).setCell ⟨w.heap.size + 1 + 1, 3, none⟩ (.int .i64 0)) = wy := hwy.symm
    rw [hch]
    have HT := Lib.hid (HT.out.putsC (.int .i64 4) (.slice none 0 0) (.int .i64 st) (.int .i64 0))
    rw [← hwy] at HT
    clear hch hwy cc fc zc
    obtain ⟨cc, fc, zc⟩ := HT.out.c
    refine bodyPost_ret (v := .tuple #[.agg #[.int .i64 4, .slice none 0 0, .int .i64 st, .int .i64 0], .int .i64 0]) (by simp [results, Tryz.results28, go_sem, cc]) rfl ⟨⟨none, 0, st, [], ps, ?_, HL.out, (Sl.nil _ _).a, ?_⟩, HT.out.low⟩
    · show _ = Ending.returned (.tuple #[.agg #[.int .i64 (kindV (univB 2) (satQ (membersP ps) ⟨2, ⟨x1, x2⟩, ⟨x3, x4⟩, .slice wo us.length wc⟩ us)), .slice none 0 0, .int .i64 st, .int .i64 0], .int .i64 0])
      rw [← HOK.out]
      rfl
    · show _ = if univB 2 = satQ (membersP ps) ⟨2, ⟨x1, x2⟩, ⟨x3, x4⟩, .slice wo us.length wc⟩ us then [] else _
      rw [← HOK.out]
      rfl
  | true =>
    go_wp2_with fail
    refine (sim_Univ (k := 2) (b := false) rfl w9).mono ?_
    rintro e w10 ⟨rfl, rfl⟩
    obtain ⟨ca, fa, za⟩ := HT.out.a
    go_wp2_with fail
    refine (sim_HighState HP.out HT.out.low HQ.out).mono ?_
    rintro e w11 ⟨vs, rfl, hvs, hb11⟩
    obtain ⟨sa, sc, rfl⟩ := hvs.form
    have HT := Lib.hid (HT.out.later hb11)
    have HV := Lib.hid hvs
    clear hvs hb11 ca fa za cb fb zb
    obtain ⟨cc, fc, zc⟩ := HT.out.c
    go_upto_region 17 with fail
    have HV := Lib.hid ((HV.out.setBlk (o := 0) (x := .int .i64 3) HT.out.c (by simp)).setBlk (o := 1) (x := .slice sa (maxS l g PS NS).length sc) (HT.out.setC (o := 0) (v := .int .i64 3) (by simp)).c (by simp)).a
    have HT := Lib.hid (show TriAt w _ _ #[.int .i64 3, .slice sa (maxS l g PS NS).length sc, .int .i64 st, .int .i64 0] _ from (HT.out.setC (o := 0) (v := .int .i64 3) (by simp)).setC (o := 1) (v := .slice sa (maxS l g PS NS).length sc) (by simp))
    clear cc fc zc
    obtain ⟨wx, hwx⟩ : ∃ W, W = (w11.setCell ⟨w.heap.size + 1 + 1, 0, none⟩ (.int .i64 3)).setCell ⟨w.heap.size + 1 + 1, 1, none⟩ (.slice sa (maxS l g PS NS).length sc) := ⟨_, rfl⟩
    rw [← hwx] at HV HT ⊢
    clear hwx
    obtain ⟨cc, fc, zc⟩ := HT.out.c
    go_wp2
    obtain ⟨wy, hwy⟩ : ∃ W, W = puts wx (w.heap.size + 1 + 1) 0 [.int .i64 3, .slice sa (maxS l g PS NS).length sc, .int .i64 st, .int .i64 0] := ⟨_, rfl⟩
    have hch : ((((wx.setCell ⟨w.heap.size + 1 + 1, 0, none⟩ (.int .i64 3)).setCell ⟨w.heap.size + 1 + 1, 1, none⟩ (.slice sa (maxS l g PS NS).length sc)).setCell ⟨w.heap.size + 1 + 1, 2, none⟩ (.int .i64 st)).setCell ⟨w.heap.size + 1 + 1, 3, none⟩ (.int .i64 0)) = wy := hwy.symm
    rw [hch]
    have HV := Lib.hid (HV.out.putsBlk [.int .i64 3, .slice sa (maxS l g PS NS).length sc, .int .i64 st, .int .i64 0] 0 wx _ HT.out.c (by simp) (by simp))
    have HT := Lib.hid (HT.out.putsC (.int .i64 3) (.slice sa (maxS l g PS NS).length sc) (.int .i64 st) (.int .i64 0))
    rw [← hwy] at HV HT
    clear hch hwy cc fc zc
    obtain ⟨cc, fc, zc⟩ := HT.out.c
    refine bodyPost_ret (v := .tuple #[.agg #[.int .i64 3, .slice sa (maxS l g PS NS).length sc, .int .i64 st, .int .i64 0], .int .i64 0]) (by simp [results, Tryz.results28, go_sem, cc]) rfl ⟨⟨sa, sc, st, maxS l g PS NS, ps, ?_, HL.out, HV.out, ?_⟩, HT.out.low⟩
    · show _ = Ending.returned (.tuple #[.agg #[.int .i64 (kindV (univB 2) (satQ (membersP ps) ⟨2, ⟨x1, x2⟩, ⟨x3, x4⟩, .slice wo us.length wc⟩ us)), .slice sa (maxS l g PS NS).length sc, .int .i64 st, .int .i64 0], .int .i64 0])
      rw [← HOK.out]
      rfl
    · show _ = if univB 2 = satQ (membersP ps) ⟨2, ⟨x1, x2⟩, ⟨x3, x4⟩, .slice wo us.length wc⟩ us then [] else _
      rw [← HOK.out]
      rfl
set_option maxRecDepth 100000 in
set_option maxHeartbeats 8000000 in
theorem sim_Decide3 (v0 v1 v2 v3 : Value) (l : List St) (g h : List Rl) (qs : List Qv) (q : Qv) (us PS NS : List ByteArray) (w : World) (P : SimIn w v0 v1 v2 v3 l g h qs q us PS NS) (hk : q.k = 3) :
    Calls Tryz.prog 28 #[pv v0 v1 v2 v3, qv q] w fun e w' => DecP (maxS l g PS NS) q us e w' ∧ Below w.heap.size w w' := by
  have HP := Lib.hid P
  obtain ⟨a0, c0, rfl⟩ := P.at_.rs.form
  obtain ⟨a1, c1, rfl⟩ := P.at_.rg.form
  obtain ⟨a2, c2, rfl⟩ := P.at_.rh.form
  obtain ⟨a3, c3, rfl⟩ := P.at_.rq.form
  obtain ⟨xk, ⟨x1, x2⟩, ⟨x3, x4⟩, wv⟩ := q
  dsimp only at hk
  obtain ⟨wo, wc, e1⟩ := P.hu.form
  dsimp only at e1
  subst hk e1
  clear P
  have HT := Lib.hid (show TriAt w #[.slice a0 l.length c0, .slice a1 g.length c1, .slice a2 h.length c2, .slice a3 qs.length c3] #[.int .i64 3, .string x1, .string x2, .string x3, .string x4, .slice wo us.length wc] #[.int .i64 0, .slice none 0 0, .int .i64 0, .int .i64 0] (((w.alloc (.cells #[.slice a0 l.length c0, .slice a1 g.length c1, .slice a2 h.length c2, .slice a3 qs.length c3] 26)).alloc (.cells #[.int .i64 3, .string x1, .string x2, .string x3, .string x4, .slice wo us.length wc] 45)).alloc (.cells #[.int .i64 0, .slice none 0 0, .int .i64 0, .int .i64 0] 48))
    from TriAt.new w _ _ _ _ _ _)
  go_enter Tryz.func28, Tryz.ntmps28
  go_upto_region 1 with fail
  obtain ⟨wk, hwk⟩ : ∃ W, W = (((w.alloc (.cells #[.slice a0 l.length c0, .slice a1 g.length c1, .slice a2 h.length c2, .slice a3 qs.length c3] 26)).alloc (.cells #[.int .i64 3, .string x1, .string x2, .string x3, .string x4, .slice wo us.length wc] 45)).alloc (.cells #[.int .i64 0, .slice none 0 0, .int .i64 0, .int .i64 0] 48)) := ⟨_, rfl⟩
  rw [← hwk] at HT ⊢
  clear hwk
  obtain ⟨ca, fa, za⟩ := HT.out.a
  obtain ⟨cb, fb, zb⟩ := HT.out.b
  go_wp2_with fail
  refine (sim_Only (.slice a0 l.length c0) (.slice a1 g.length c1) (.slice a2 h.length c2) (.slice a3 qs.length c3) l g h qs ⟨3, ⟨x1, x2⟩, ⟨x3, x4⟩, .slice wo us.length wc⟩ wk (HP.out.at_.below HT.out.low)).mono ?_
  rintro e w1 ⟨vq, rfl, hvq, hb1⟩
  obtain ⟨qa, qc, rfl⟩ := hvq.form
  have HT := Lib.hid (HT.out.later hb1)
  have HQ := Lib.hid hvq
  clear hvq hb1 ca fa za cb fb zb
  obtain ⟨ca, fa, za⟩ := HT.out.a
  go_upto_region 2 with fail
  obtain ⟨w2, hw2⟩ : ∃ W, W = puts w1 w.heap.size 0 [.slice a0 l.length c0, .slice a1 g.length c1, .slice a2 h.length c2, .slice qa 1 qc] := ⟨_, rfl⟩
  have hch : ((((w1.setCell ⟨w.heap.size, 0, none⟩ (.slice a0 l.length c0)).setCell ⟨w.heap.size, 1, none⟩ (.slice a1 g.length c1)).setCell ⟨w.heap.size, 2, none⟩ (.slice a2 h.length c2)).setCell ⟨w.heap.size, 3, none⟩ (.slice qa 1 qc)) = w2 := hw2.symm
  rw [hch]
  have HQ := Lib.hid (HQ.out.putsBlk [.slice a0 l.length c0, .slice a1 g.length c1, .slice a2 h.length c2, .slice qa 1 qc] 0 w1 _ HT.out.a (by simp) (by simp))
  have HT := Lib.hid (HT.out.putsA (.slice a0 l.length c0) (.slice a1 g.length c1) (.slice a2 h.length c2) (.slice qa 1 qc))
  rw [← hw2] at HQ HT
  clear hch hw2 ca fa za
  obtain ⟨ca, fa, za⟩ := HT.out.a
  obtain ⟨cb, fb, zb⟩ := HT.out.b
  go_wp2_with fail
  refine (sim_Right HP.out HT.out.low HQ.out).mono ?_
  rintro e w3 ⟨rfl, hb3⟩
  have HQ := Lib.hid (HQ.out.below hb3)
  have HT := Lib.hid (HT.out.later hb3)
  clear hb3 ca fa za cb fb zb
  obtain ⟨cb, fb, zb⟩ := HT.out.b
  go_wp2_with fail
  refine (sim_IsT HP.out HT.out.low).mono ?_
  rintro e w4 ⟨rfl, hb4⟩
  have HQ := Lib.hid (HQ.out.below hb4)
  have HT := Lib.hid (HT.out.later hb4)
  clear hb4 cb fb zb
  obtain ⟨ca, fa, za⟩ := HT.out.a
  obtain ⟨cb, fb, zb⟩ := HT.out.b
  go_wp2_with fail
  refine (sim_HighEval HP.out HT.out.low HQ.out).mono ?_
  rintro e w5 ⟨t, M, fs, st, rfl, ht, hb5⟩
  have hsm : SameM (putX PS) NS (maxS l g PS NS) := (HP.out.polx HT.out.low HQ.out).highM HP.out.h6 HP.out.h4
  have HQ := Lib.hid (HQ.out.below hb5)
  have HT := Lib.hid (HT.out.later hb5)
  have HM := Lib.hid ht
  have HS := Lib.hid hsm
  clear hb5 ca fa za cb fb zb ht hsm
  obtain ⟨ps, hps⟩ := least_ex (maxS l g PS NS)
  have SAT := Lib.hid (sim_Sat HP.out HT.out.low HM.out HS.out hps)
  have HL := Lib.hid hps
  obtain ⟨ok, hok⟩ : ∃ b, b = satQ (membersP ps) ⟨3, ⟨x1, x2⟩, ⟨x3, x4⟩, .slice wo us.length wc⟩ us := ⟨_, rfl⟩
  rw [← hok] at SAT
  have HOK := Lib.hid hok
  clear hps hok
  obtain ⟨cb, fb, zb⟩ := HT.out.b
  go_wp2_with fail
  refine SAT.out.mono ?_
  rintro e w6 ⟨rfl, hb6⟩
  have HQ := Lib.hid (HQ.out.below hb6)
  have HT := Lib.hid (HT.out.later hb6)
  have HM := Lib.hid (HM.out.below hb6)
  clear hb6 cb fb zb SAT HS
  obtain ⟨F5, W0, g0, hm⟩ := HM.out.mod
  have ST := Lib.hid (model_Steps hm)
  clear hm
  go_wp2_with fail
  refine ST.out.mono ?_
  rintro e w7 ⟨rfl, rfl⟩
  clear ST
  obtain ⟨cc, fc, zc⟩ := HT.out.c
  go_upto_region 11 with fail
  have HQ := Lib.hid (HQ.out.setBlk (o := 2) (x := .int .i64 st) HT.out.c (by simp))
  have HT := Lib.hid (show TriAt w _ _ #[.int .i64 0, .slice none 0 0, .int .i64 st, .int .i64 0] _ from HT.out.setC (o := 2) (v := .int .i64 st) (by simp))
  clear cc fc zc
  obtain ⟨w8, hw8⟩ : ∃ W, W = w7.setCell ⟨w.heap.size + 1 + 1, 2, none⟩ (.int .i64 st) := ⟨_, rfl⟩
  rw [← hw8] at HQ HT ⊢
  clear hw8 HM
  obtain ⟨cb, fb, zb⟩ := HT.out.b
  go_wp2_with fail
  refine (sim_Univ (k := 3) (b := true) rfl w8).mono ?_
  rintro e w9 ⟨rfl, rfl⟩
  cases ok with
  | false =>
    go_wp2_with fail
    refine (sim_Univ (k := 3) (b := true) rfl w9).mono ?_
    rintro e w10 ⟨rfl, rfl⟩
    obtain ⟨ca, fa, za⟩ := HT.out.a
    go_wp2_with fail
    refine (sim_HighState HP.out HT.out.low HQ.out).mono ?_
    rintro e w11 ⟨vs, rfl, hvs, hb11⟩
    obtain ⟨sa, sc, rfl⟩ := hvs.form
    have HT := Lib.hid (HT.out.later hb11)
    have HV := Lib.hid hvs
    clear hvs hb11 ca fa za cb fb zb
    obtain ⟨cc, fc, zc⟩ := HT.out.c
    go_upto_region 17 with fail
    have HV := Lib.hid ((HV.out.setBlk (o := 0) (x := .int .i64 2) HT.out.c (by simp)).setBlk (o := 1) (x := .slice sa (maxS l g PS NS).length sc) (HT.out.setC (o := 0) (v := .int .i64 2) (by simp)).c (by simp)).a
    have HT := Lib.hid (show TriAt w _ _ #[.int .i64 2, .slice sa (maxS l g PS NS).length sc, .int .i64 st, .int .i64 0] _ from (HT.out.setC (o := 0) (v := .int .i64 2) (by simp)).setC (o := 1) (v := .slice sa (maxS l g PS NS).length sc) (by simp))
    clear cc fc zc
    obtain ⟨wx, hwx⟩ : ∃ W, W = (w11.setCell ⟨w.heap.size + 1 + 1, 0, none⟩ (.int .i64 2)).setCell ⟨w.heap.size + 1 + 1, 1, none⟩ (.slice sa (maxS l g PS NS).length sc) := ⟨_, rfl⟩
    rw [← hwx] at HV HT ⊢
    clear hwx
    obtain ⟨cc, fc, zc⟩ := HT.out.c
    go_wp2
    obtain ⟨wy, hwy⟩ : ∃ W, W = puts wx (w.heap.size + 1 + 1) 0 [.int .i64 2, .slice sa (maxS l g PS NS).length sc, .int .i64 st, .int .i64 0] := ⟨_, rfl⟩
    have hch : ((((wx.setCell ⟨w.heap.size + 1 + 1, 0, none⟩ (.int .i64 2)).setCell ⟨w.heap.size + 1 + 1, 1, none⟩ (.slice sa (maxS l g PS NS).length sc)).setCell ⟨w.heap.size + 1 + 1, 2, none⟩ (.int .i64 st)).setCell ⟨w.heap.size + 1 + 1, 3, none⟩ (.int .i64 0)) = wy := hwy.symm
    rw [hch]
    have HV := Lib.hid (HV.out.putsBlk [.int .i64 2, .slice sa (maxS l g PS NS).length sc, .int .i64 st, .int .i64 0] 0 wx _ HT.out.c (by simp) (by simp))
    have HT := Lib.hid (HT.out.putsC (.int .i64 2) (.slice sa (maxS l g PS NS).length sc) (.int .i64 st) (.int .i64 0))
    rw [← hwy] at HV HT
    clear hch hwy cc fc zc
    obtain ⟨cc, fc, zc⟩ := HT.out.c
    refine bodyPost_ret (v := .tuple #[.agg #[.int .i64 2, .slice sa (maxS l g PS NS).length sc, .int .i64 st, .int .i64 0], .int .i64 0]) (by simp [results, Tryz.results28, go_sem, cc]) rfl ⟨⟨sa, sc, st, maxS l g PS NS, ps, ?_, HL.out, HV.out, ?_⟩, HT.out.low⟩
    · show _ = Ending.returned (.tuple #[.agg #[.int .i64 (kindV (univB 3) (satQ (membersP ps) ⟨3, ⟨x1, x2⟩, ⟨x3, x4⟩, .slice wo us.length wc⟩ us)), .slice sa (maxS l g PS NS).length sc, .int .i64 st, .int .i64 0], .int .i64 0])
      rw [← HOK.out]
      rfl
    · show _ = if univB 3 = satQ (membersP ps) ⟨3, ⟨x1, x2⟩, ⟨x3, x4⟩, .slice wo us.length wc⟩ us then [] else _
      rw [← HOK.out]
      rfl
  | true =>
    obtain ⟨cc, fc, zc⟩ := HT.out.c
    go_upto_region 17 with fail
    have HT := Lib.hid (show TriAt w _ _ #[.int .i64 1, .slice none 0 0, .int .i64 st, .int .i64 0] _ from HT.out.setC (o := 0) (v := .int .i64 1) (by simp))
    clear cc fc zc
    obtain ⟨wx, hwx⟩ : ∃ W, W = w9.setCell ⟨w.heap.size + 1 + 1, 0, none⟩ (.int .i64 1) := ⟨_, rfl⟩
    rw [← hwx] at HT ⊢
    clear hwx
    obtain ⟨cc, fc, zc⟩ := HT.out.c
    go_wp2
    obtain ⟨wy, hwy⟩ : ∃ W, W = puts wx (w.heap.size + 1 + 1) 0 [.int .i64 1, .slice none 0 0, .int .i64 st, .int .i64 0] := ⟨_, rfl⟩
    have hch : ((((wx.setCell ⟨w.heap.size + 1 + 1, 0, none⟩ (.int .i64 1)).setCell ⟨w.heap.size + 1 + 1, 1, none⟩ (.slice none 0 0)).setCell ⟨w.heap.size + 1 + 1, 2, none⟩ (.int .i64 st)).setCell ⟨w.heap.size + 1 + 1, 3, none⟩ (.int .i64 0)) = wy := hwy.symm
    rw [hch]
    have HT := Lib.hid (HT.out.putsC (.int .i64 1) (.slice none 0 0) (.int .i64 st) (.int .i64 0))
    rw [← hwy] at HT
    clear hch hwy cc fc zc
    obtain ⟨cc, fc, zc⟩ := HT.out.c
    refine bodyPost_ret (v := .tuple #[.agg #[.int .i64 1, .slice none 0 0, .int .i64 st, .int .i64 0], .int .i64 0]) (by simp [results, Tryz.results28, go_sem, cc]) rfl ⟨⟨none, 0, st, [], ps, ?_, HL.out, (Sl.nil _ _).a, ?_⟩, HT.out.low⟩
    · show _ = Ending.returned (.tuple #[.agg #[.int .i64 (kindV (univB 3) (satQ (membersP ps) ⟨3, ⟨x1, x2⟩, ⟨x3, x4⟩, .slice wo us.length wc⟩ us)), .slice none 0 0, .int .i64 st, .int .i64 0], .int .i64 0])
      rw [← HOK.out]
      rfl
    · show _ = if univB 3 = satQ (membersP ps) ⟨3, ⟨x1, x2⟩, ⟨x3, x4⟩, .slice wo us.length wc⟩ us then [] else _
      rw [← HOK.out]
      rfl
set_option maxRecDepth 100000 in
set_option maxHeartbeats 8000000 in
theorem sim_Decide5 (v0 v1 v2 v3 : Value) (l : List St) (g h : List Rl) (qs : List Qv) (q : Qv) (us PS NS : List ByteArray) (w : World) (P : SimIn w v0 v1 v2 v3 l g h qs q us PS NS) (hk : q.k = 5) :
    Calls Tryz.prog 28 #[pv v0 v1 v2 v3, qv q] w fun e w' => DecP (maxS l g PS NS) q us e w' ∧ Below w.heap.size w w' := by
  have HP := Lib.hid P
  obtain ⟨a0, c0, rfl⟩ := P.at_.rs.form
  obtain ⟨a1, c1, rfl⟩ := P.at_.rg.form
  obtain ⟨a2, c2, rfl⟩ := P.at_.rh.form
  obtain ⟨a3, c3, rfl⟩ := P.at_.rq.form
  obtain ⟨xk, ⟨x1, x2⟩, ⟨x3, x4⟩, wv⟩ := q
  dsimp only at hk
  obtain ⟨wo, wc, e1⟩ := P.hu.form
  dsimp only at e1
  subst hk e1
  clear P
  have HT := Lib.hid (show TriAt w #[.slice a0 l.length c0, .slice a1 g.length c1, .slice a2 h.length c2, .slice a3 qs.length c3] #[.int .i64 5, .string x1, .string x2, .string x3, .string x4, .slice wo us.length wc] #[.int .i64 0, .slice none 0 0, .int .i64 0, .int .i64 0] (((w.alloc (.cells #[.slice a0 l.length c0, .slice a1 g.length c1, .slice a2 h.length c2, .slice a3 qs.length c3] 26)).alloc (.cells #[.int .i64 5, .string x1, .string x2, .string x3, .string x4, .slice wo us.length wc] 45)).alloc (.cells #[.int .i64 0, .slice none 0 0, .int .i64 0, .int .i64 0] 48))
    from TriAt.new w _ _ _ _ _ _)
  go_enter Tryz.func28, Tryz.ntmps28
  go_upto_region 1 with fail
  obtain ⟨wk, hwk⟩ : ∃ W, W = (((w.alloc (.cells #[.slice a0 l.length c0, .slice a1 g.length c1, .slice a2 h.length c2, .slice a3 qs.length c3] 26)).alloc (.cells #[.int .i64 5, .string x1, .string x2, .string x3, .string x4, .slice wo us.length wc] 45)).alloc (.cells #[.int .i64 0, .slice none 0 0, .int .i64 0, .int .i64 0] 48)) := ⟨_, rfl⟩
  rw [← hwk] at HT ⊢
  clear hwk
  obtain ⟨ca, fa, za⟩ := HT.out.a
  obtain ⟨cb, fb, zb⟩ := HT.out.b
  go_wp2_with fail
  refine (sim_Only (.slice a0 l.length c0) (.slice a1 g.length c1) (.slice a2 h.length c2) (.slice a3 qs.length c3) l g h qs ⟨5, ⟨x1, x2⟩, ⟨x3, x4⟩, .slice wo us.length wc⟩ wk (HP.out.at_.below HT.out.low)).mono ?_
  rintro e w1 ⟨vq, rfl, hvq, hb1⟩
  obtain ⟨qa, qc, rfl⟩ := hvq.form
  have HT := Lib.hid (HT.out.later hb1)
  have HQ := Lib.hid hvq
  clear hvq hb1 ca fa za cb fb zb
  obtain ⟨ca, fa, za⟩ := HT.out.a
  go_upto_region 2 with fail
  obtain ⟨w2, hw2⟩ : ∃ W, W = puts w1 w.heap.size 0 [.slice a0 l.length c0, .slice a1 g.length c1, .slice a2 h.length c2, .slice qa 1 qc] := ⟨_, rfl⟩
  have hch : ((((w1.setCell ⟨w.heap.size, 0, none⟩ (.slice a0 l.length c0)).setCell ⟨w.heap.size, 1, none⟩ (.slice a1 g.length c1)).setCell ⟨w.heap.size, 2, none⟩ (.slice a2 h.length c2)).setCell ⟨w.heap.size, 3, none⟩ (.slice qa 1 qc)) = w2 := hw2.symm
  rw [hch]
  have HQ := Lib.hid (HQ.out.putsBlk [.slice a0 l.length c0, .slice a1 g.length c1, .slice a2 h.length c2, .slice qa 1 qc] 0 w1 _ HT.out.a (by simp) (by simp))
  have HT := Lib.hid (HT.out.putsA (.slice a0 l.length c0) (.slice a1 g.length c1) (.slice a2 h.length c2) (.slice qa 1 qc))
  rw [← hw2] at HQ HT
  clear hch hw2 ca fa za
  obtain ⟨ca, fa, za⟩ := HT.out.a
  obtain ⟨cb, fb, zb⟩ := HT.out.b
  go_wp2_with fail
  refine (sim_Right HP.out HT.out.low HQ.out).mono ?_
  rintro e w3 ⟨rfl, hb3⟩
  have HQ := Lib.hid (HQ.out.below hb3)
  have HT := Lib.hid (HT.out.later hb3)
  clear hb3 ca fa za cb fb zb
  obtain ⟨cb, fb, zb⟩ := HT.out.b
  go_wp2_with fail
  refine (sim_IsT HP.out HT.out.low).mono ?_
  rintro e w4 ⟨rfl, hb4⟩
  have HQ := Lib.hid (HQ.out.below hb4)
  have HT := Lib.hid (HT.out.later hb4)
  clear hb4 cb fb zb
  obtain ⟨ca, fa, za⟩ := HT.out.a
  obtain ⟨cb, fb, zb⟩ := HT.out.b
  go_wp2_with fail
  refine (sim_HighEval HP.out HT.out.low HQ.out).mono ?_
  rintro e w5 ⟨t, M, fs, st, rfl, ht, hb5⟩
  have hsm : SameM (putX PS) NS (maxS l g PS NS) := (HP.out.polx HT.out.low HQ.out).highM HP.out.h6 HP.out.h4
  have HQ := Lib.hid (HQ.out.below hb5)
  have HT := Lib.hid (HT.out.later hb5)
  have HM := Lib.hid ht
  have HS := Lib.hid hsm
  clear hb5 ca fa za cb fb zb ht hsm
  obtain ⟨ps, hps⟩ := least_ex (maxS l g PS NS)
  have SAT := Lib.hid (sim_Sat HP.out HT.out.low HM.out HS.out hps)
  have HL := Lib.hid hps
  obtain ⟨ok, hok⟩ : ∃ b, b = satQ (membersP ps) ⟨5, ⟨x1, x2⟩, ⟨x3, x4⟩, .slice wo us.length wc⟩ us := ⟨_, rfl⟩
  rw [← hok] at SAT
  have HOK := Lib.hid hok
  clear hps hok
  obtain ⟨cb, fb, zb⟩ := HT.out.b
  go_wp2_with fail
  refine SAT.out.mono ?_
  rintro e w6 ⟨rfl, hb6⟩
  have HQ := Lib.hid (HQ.out.below hb6)
  have HT := Lib.hid (HT.out.later hb6)
  have HM := Lib.hid (HM.out.below hb6)
  clear hb6 cb fb zb SAT HS
  obtain ⟨F5, W0, g0, hm⟩ := HM.out.mod
  have ST := Lib.hid (model_Steps hm)
  clear hm
  go_wp2_with fail
  refine ST.out.mono ?_
  rintro e w7 ⟨rfl, rfl⟩
  clear ST
  obtain ⟨cc, fc, zc⟩ := HT.out.c
  go_upto_region 11 with fail
  have HQ := Lib.hid (HQ.out.setBlk (o := 2) (x := .int .i64 st) HT.out.c (by simp))
  have HT := Lib.hid (show TriAt w _ _ #[.int .i64 0, .slice none 0 0, .int .i64 st, .int .i64 0] _ from HT.out.setC (o := 2) (v := .int .i64 st) (by simp))
  clear cc fc zc
  obtain ⟨w8, hw8⟩ : ∃ W, W = w7.setCell ⟨w.heap.size + 1 + 1, 2, none⟩ (.int .i64 st) := ⟨_, rfl⟩
  rw [← hw8] at HQ HT ⊢
  clear hw8 HM
  obtain ⟨cb, fb, zb⟩ := HT.out.b
  go_wp2_with fail
  refine (sim_Univ (k := 5) (b := true) rfl w8).mono ?_
  rintro e w9 ⟨rfl, rfl⟩
  cases ok with
  | false =>
    go_wp2_with fail
    refine (sim_Univ (k := 5) (b := true) rfl w9).mono ?_
    rintro e w10 ⟨rfl, rfl⟩
    obtain ⟨ca, fa, za⟩ := HT.out.a
    go_wp2_with fail
    refine (sim_HighState HP.out HT.out.low HQ.out).mono ?_
    rintro e w11 ⟨vs, rfl, hvs, hb11⟩
    obtain ⟨sa, sc, rfl⟩ := hvs.form
    have HT := Lib.hid (HT.out.later hb11)
    have HV := Lib.hid hvs
    clear hvs hb11 ca fa za cb fb zb
    obtain ⟨cc, fc, zc⟩ := HT.out.c
    go_upto_region 17 with fail
    have HV := Lib.hid ((HV.out.setBlk (o := 0) (x := .int .i64 2) HT.out.c (by simp)).setBlk (o := 1) (x := .slice sa (maxS l g PS NS).length sc) (HT.out.setC (o := 0) (v := .int .i64 2) (by simp)).c (by simp)).a
    have HT := Lib.hid (show TriAt w _ _ #[.int .i64 2, .slice sa (maxS l g PS NS).length sc, .int .i64 st, .int .i64 0] _ from (HT.out.setC (o := 0) (v := .int .i64 2) (by simp)).setC (o := 1) (v := .slice sa (maxS l g PS NS).length sc) (by simp))
    clear cc fc zc
    obtain ⟨wx, hwx⟩ : ∃ W, W = (w11.setCell ⟨w.heap.size + 1 + 1, 0, none⟩ (.int .i64 2)).setCell ⟨w.heap.size + 1 + 1, 1, none⟩ (.slice sa (maxS l g PS NS).length sc) := ⟨_, rfl⟩
    rw [← hwx] at HV HT ⊢
    clear hwx
    obtain ⟨cc, fc, zc⟩ := HT.out.c
    go_wp2
    obtain ⟨wy, hwy⟩ : ∃ W, W = puts wx (w.heap.size + 1 + 1) 0 [.int .i64 2, .slice sa (maxS l g PS NS).length sc, .int .i64 st, .int .i64 0] := ⟨_, rfl⟩
    have hch : ((((wx.setCell ⟨w.heap.size + 1 + 1, 0, none⟩ (.int .i64 2)).setCell ⟨w.heap.size + 1 + 1, 1, none⟩ (.slice sa (maxS l g PS NS).length sc)).setCell ⟨w.heap.size + 1 + 1, 2, none⟩ (.int .i64 st)).setCell ⟨w.heap.size + 1 + 1, 3, none⟩ (.int .i64 0)) = wy := hwy.symm
    rw [hch]
    have HV := Lib.hid (HV.out.putsBlk [.int .i64 2, .slice sa (maxS l g PS NS).length sc, .int .i64 st, .int .i64 0] 0 wx _ HT.out.c (by simp) (by simp))
    have HT := Lib.hid (HT.out.putsC (.int .i64 2) (.slice sa (maxS l g PS NS).length sc) (.int .i64 st) (.int .i64 0))
    rw [← hwy] at HV HT
    clear hch hwy cc fc zc
    obtain ⟨cc, fc, zc⟩ := HT.out.c
    refine bodyPost_ret (v := .tuple #[.agg #[.int .i64 2, .slice sa (maxS l g PS NS).length sc, .int .i64 st, .int .i64 0], .int .i64 0]) (by simp [results, Tryz.results28, go_sem, cc]) rfl ⟨⟨sa, sc, st, maxS l g PS NS, ps, ?_, HL.out, HV.out, ?_⟩, HT.out.low⟩
    · show _ = Ending.returned (.tuple #[.agg #[.int .i64 (kindV (univB 5) (satQ (membersP ps) ⟨5, ⟨x1, x2⟩, ⟨x3, x4⟩, .slice wo us.length wc⟩ us)), .slice sa (maxS l g PS NS).length sc, .int .i64 st, .int .i64 0], .int .i64 0])
      rw [← HOK.out]
      rfl
    · show _ = if univB 5 = satQ (membersP ps) ⟨5, ⟨x1, x2⟩, ⟨x3, x4⟩, .slice wo us.length wc⟩ us then [] else _
      rw [← HOK.out]
      rfl
  | true =>
    obtain ⟨cc, fc, zc⟩ := HT.out.c
    go_upto_region 17 with fail
    have HT := Lib.hid (show TriAt w _ _ #[.int .i64 1, .slice none 0 0, .int .i64 st, .int .i64 0] _ from HT.out.setC (o := 0) (v := .int .i64 1) (by simp))
    clear cc fc zc
    obtain ⟨wx, hwx⟩ : ∃ W, W = w9.setCell ⟨w.heap.size + 1 + 1, 0, none⟩ (.int .i64 1) := ⟨_, rfl⟩
    rw [← hwx] at HT ⊢
    clear hwx
    obtain ⟨cc, fc, zc⟩ := HT.out.c
    go_wp2
    obtain ⟨wy, hwy⟩ : ∃ W, W = puts wx (w.heap.size + 1 + 1) 0 [.int .i64 1, .slice none 0 0, .int .i64 st, .int .i64 0] := ⟨_, rfl⟩
    have hch : ((((wx.setCell ⟨w.heap.size + 1 + 1, 0, none⟩ (.int .i64 1)).setCell ⟨w.heap.size + 1 + 1, 1, none⟩ (.slice none 0 0)).setCell ⟨w.heap.size + 1 + 1, 2, none⟩ (.int .i64 st)).setCell ⟨w.heap.size + 1 + 1, 3, none⟩ (.int .i64 0)) = wy := hwy.symm
    rw [hch]
    have HT := Lib.hid (HT.out.putsC (.int .i64 1) (.slice none 0 0) (.int .i64 st) (.int .i64 0))
    rw [← hwy] at HT
    clear hch hwy cc fc zc
    obtain ⟨cc, fc, zc⟩ := HT.out.c
    refine bodyPost_ret (v := .tuple #[.agg #[.int .i64 1, .slice none 0 0, .int .i64 st, .int .i64 0], .int .i64 0]) (by simp [results, Tryz.results28, go_sem, cc]) rfl ⟨⟨none, 0, st, [], ps, ?_, HL.out, (Sl.nil _ _).a, ?_⟩, HT.out.low⟩
    · show _ = Ending.returned (.tuple #[.agg #[.int .i64 (kindV (univB 5) (satQ (membersP ps) ⟨5, ⟨x1, x2⟩, ⟨x3, x4⟩, .slice wo us.length wc⟩ us)), .slice none 0 0, .int .i64 st, .int .i64 0], .int .i64 0])
      rw [← HOK.out]
      rfl
    · show _ = if univB 5 = satQ (membersP ps) ⟨5, ⟨x1, x2⟩, ⟨x3, x4⟩, .slice wo us.length wc⟩ us then [] else _
      rw [← HOK.out]
      rfl
/-- The state that a query is asked of. -/
def decS (k : Int) (l : List St) (g h : List Rl) (PS NS : List ByteArray) : List St := if k = 1 ∨ k = 4 then minS l h else maxS l g PS NS
theorem sim_Decide {v0 v1 v2 v3 : Value} {l : List St} {g h : List Rl} {qs : List Qv} {q : Qv} {us PS NS : List ByteArray} {w : World} (P : SimIn w v0 v1 v2 v3 l g h qs q us PS NS) :
    Calls Tryz.prog 28 #[pv v0 v1 v2 v3, qv q] w fun e w' => DecP (decS q.k l g h PS NS) q us e w' ∧ Below w.heap.size w w' := by
  have hk := (rightQ_parts P.rightQ).1
  have h6 := P.q6
  unfold decS
  by_cases k1 : q.k = 1
  · rw [if_pos (.inl k1)]; exact sim_Decide1 v0 v1 v2 v3 l g h qs q us PS NS w P k1
  by_cases k4 : q.k = 4
  · rw [if_pos (.inr k4)]; exact sim_Decide4 v0 v1 v2 v3 l g h qs q us PS NS w P k4
  rw [if_neg (by omega)]
  by_cases k2 : q.k = 2
  · exact sim_Decide2 v0 v1 v2 v3 l g h qs q us PS NS w P k2
  by_cases k3 : q.k = 3
  · exact sim_Decide3 v0 v1 v2 v3 l g h qs q us PS NS w P k3
  exact sim_Decide5 v0 v1 v2 v3 l g h qs q us PS NS w P (by omega)
end Go.Proofs.YtcmdhfccdkjenaaGreatDoor
namespace Go.Proofs.YtcmdhfccdkjenaaGreatDoor
open Go.RowKit Go.Shelf

set_option maxRecDepth 100000 in
set_option maxHeartbeats 8000000 in
theorem ref13_Satisfies (va : Value) (ps : List Pr) (q : Qv) (us : List ByteArray) (w : World) (ha : SlA w 3 va ps.length (ps.flatMap pcells)) (hn : ps.length ≤ 10000) (hu : SlA w 1 q.w us.length (strs us)) :
    Calls Tryz.prog 39 #[va, qv q] w fun e w' => e = .returned (.bool (satQ (membersP ps) q us)) ∧ Below w.heap.size w w' := by
  have HA := Lib.hid ha
  have HU := Lib.hid hu
  have hma := membersP_len ps q.a
  have RS := Lib.hid (show satQ (membersP ps) q us = if q.k = 1 ∨ q.k = 2 then insideB us (membersP ps q.a) else if q.k = 3 then insideB (membersP ps q.a) us else if q.k = 4 then decide ((membersP ps q.a).length = 0) else if q.k = 5 then !((membersP ps q.a).any fun s => hasB (membersP ps q.b) s) else if q.k = 6 then insideB (membersP ps q.a) (membersP ps q.b) else false from rfl)
  generalize satQ (membersP ps) q us = res at RS ⊢
  obtain ⟨xk, ⟨x1, x2⟩, ⟨x3, x4⟩, wv⟩ := q
  dsimp only at RS HU hu hma
  obtain ⟨wo, wc, rfl⟩ := hu.form
  have HT := Lib.hid (show OneAt w #[.int .i64 xk, .string x1, .string x2, .string x3, .string x4, .slice wo us.length wc] (w.alloc (.cells #[.int .i64 xk, .string x1, .string x2, .string x3, .string x4, .slice wo us.length wc] 45)) from ⟨Blk.new w _ _, (Below.refl _ _).alloc (Nat.le_refl _) _⟩)
  clear hu ha
  go_enter Tryz.func39, Tryz.ntmps39
  go_wp2_with fail
  refine (ref11_Members va ps ⟨x1, x2⟩ _ (HA.out.below HT.out.low) hn).mono ?_
  rintro e w1 ⟨v1, rfl, hs1, hb1⟩
  obtain ⟨a1, c1, rfl⟩ := hs1.form
  have HT := Lib.hid (HT.out.later hb1)
  have H1 := Lib.hid hs1
  clear hs1 hb1
  obtain ⟨ca, fa, za⟩ := HT.out.a
  go_wp2_with fail
  refine (ref11_Members va ps ⟨x3, x4⟩ _ (HA.out.below HT.out.low) hn).mono ?_
  rintro e w2 ⟨v2, rfl, hs2, hb2⟩
  obtain ⟨a2, c2, rfl⟩ := hs2.form
  have HT := Lib.hid (HT.out.later hb2)
  have H1 := Lib.hid (H1.out.below hb2)
  have H2 := Lib.hid hs2
  clear hs2 hb2 ca fa za
  have HU := Lib.hid (HU.out.below HT.out.low)
  obtain ⟨ca, fa, za⟩ := HT.out.a
  generalize membersP ps ⟨x1, x2⟩ = ms at *
  generalize membersP ps ⟨x3, x4⟩ = ns at *
  by_cases h1 : xk = 1
  · subst h1
    have R : Hid (res = insideB us ms) := Lib.hid (RS.out.trans (by rfl))
    clear RS
    go_wp2_with fail
    refine (ref11_Inside _ _ us ms w2 HU.out H1.out).mono ?_
    rintro e w3 ⟨rfl, rfl⟩
    clear ca fa za
    go_wp2_with fail
    go_ret
    exact ⟨ret_b R.out.symm, HT.out.low⟩
  by_cases h2 : xk = 2
  · subst h2
    have R : Hid (res = insideB us ms) := Lib.hid (RS.out.trans (by rfl))
    clear RS
    go_wp2_with fail
    refine (ref11_Inside _ _ us ms w2 HU.out H1.out).mono ?_
    rintro e w3 ⟨rfl, rfl⟩
    clear ca fa za
    go_wp2_with fail
    go_ret
    exact ⟨ret_b R.out.symm, HT.out.low⟩
  by_cases h3 : xk = 3
  · subst h3
    have R : Hid (res = insideB ms us) := Lib.hid (RS.out.trans (by rfl))
    clear RS
    go_wp2_with fail
    refine (ref11_Inside _ _ ms us w2 H1.out HU.out).mono ?_
    rintro e w3 ⟨rfl, rfl⟩
    clear ca fa za
    go_wp2_with fail
    go_ret
    exact ⟨ret_b R.out.symm, HT.out.low⟩
  by_cases h4 : xk = 4
  · subst h4
    have R : Hid (res = decide (ms.length = 0)) := Lib.hid (RS.out.trans (by rfl))
    clear RS
    by_cases h0 : ms.length = 0
    · have d0 : decide ((ms.length : Int) = 0) = true := decide_eq_true (by omega)
      have R := Lib.hid (R.out.trans (decide_eq_true h0))
      go_wp2
      go_ret
      exact ⟨by rw [R.out]; simp [h0], HT.out.low⟩
    · have R := Lib.hid (R.out.trans (decide_eq_false h0))
      go_wp2
      go_ret
      exact ⟨by rw [R.out]; simp [h0], HT.out.low⟩
  by_cases h5 : xk = 5
  · subst h5
    have R : Hid (res = !(ms.any fun s => hasB ns s)) := Lib.hid (RS.out.trans (by rfl))
    clear RS
    have RY := Lib.hid (fun k (hk : ¬ k < ms.length) (h : ∀ j (hj : j < ms.length), j < k → hasB ns ms[j] = false) => show res = true by
      rw [R.out, Bool.not_eq_true', List.any_eq_false]
      intro x hx
      obtain ⟨j, hj, rfl⟩ := List.getElem_of_mem hx
      rw [h j hj (by omega)]; exact Bool.false_ne_true)
    have RN := Lib.hid (fun k (hk : k < ms.length) (h : hasB ns ms[k] = true) => show res = false by
      rw [R.out, Bool.not_eq_false', List.any_eq_true]
      exact ⟨ms[k], List.getElem_mem hk, h⟩)
    have HH := Lib.hid (fun s => ref1_HasB _ ns s w2 H2.out)
    clear R
    go_wp2_with fail
    go_loopw [41] (fun i wr => ∃ k : Nat, k ≤ ms.length ∧ i = .int .i64 k ∧ wr = w2 ∧ Hid (∀ j (hj : j < ms.length), j < k → hasB ns ms[j] = false)) (fun i _ => ms.length - (intOf i).toNat)
    case atStart => exact ⟨0, by omega, rfl, rfl, Lib.hid (fun _ _ h => absurd h (by omega))⟩
    case round =>
      obtain ⟨k, hk, rfl, rfl, HK⟩ := hrel
      by_cases hlt : k < ms.length
      · obtain ⟨b1, o1, e1, he1, hc1, hm1, hb1, hx1⟩ := H1.out.pos (by omega)
        simp only [Value.slice.injEq, true_and] at he1
        obtain ⟨rfl, rfl⟩ := he1
        have p0 := hx1 k _ (strs_get hlt)
        have HN := Lib.hid (fun (hn : hasB ns ms[k] = false) j (hj : j < ms.length) (hjk : j < k + 1) => show hasB ns ms[j] = false by
          by_cases hjk' : j < k
          · exact HK.out j hj hjk'
          · obtain rfl : j = k := by omega
            exact hn)
        have HNk := Lib.hid (RN.out k hlt)
        clear hx1
        generalize ms[k] = x at *
        have HHx := Lib.hid (HH.out x)
        generalize hasB ns x = t at *
        go_wp2_with fail
        refine HHx.out.mono ?_
        rintro e w3 ⟨rfl, rfl⟩
        cases t with
        | false =>
          have HN2 := Lib.hid (HN.out rfl)
          clear HN HNk HHx
          go_wp2_with fail
          exact ⟨⟨k + 1, by omega, by go_num, trivial, HN2⟩, by simp [intOf]; omega⟩
        | true =>
          have R := Lib.hid (HNk.out rfl)
          clear HN HNk HHx
          go_wp2_with fail
          go_ret
          exact ⟨ret_b R.out.symm, HT.out.low⟩
      · have R := Lib.hid (RY.out k hlt HK.out)
        go_wp2
        go_ret
        exact ⟨ret_b R.out.symm, HT.out.low⟩
  by_cases h6 : xk = 6
  · subst h6
    have R : Hid (res = insideB ms ns) := Lib.hid (RS.out.trans (by rfl))
    clear RS
    go_wp2_with fail
    refine (ref11_Inside _ _ ms ns w2 H1.out H2.out).mono ?_
    rintro e w3 ⟨rfl, rfl⟩
    clear ca fa za
    go_wp2_with fail
    go_ret
    exact ⟨ret_b R.out.symm, HT.out.low⟩
  have R : Hid (res = false) := Lib.hid (RS.out.trans (by rw [if_neg (by omega), if_neg h3, if_neg h4, if_neg h5, if_neg h6]))
  clear RS
  have d1 : (xk == 1) = false := by simp [h1]
  have d2 : (xk == 2) = false := by simp [h2]
  have d3 : (xk == 3) = false := by simp [h3]
  have d4 : (xk == 4) = false := by simp [h4]
  have d5 : (xk == 5) = false := by simp [h5]
  have d6 : (xk == 6) = false := by simp [h6]
  clear h1 h2 h3 h4 h5 h6
  go_wp2
  go_ret
  exact ⟨ret_b R.out.symm, HT.out.low⟩
end Go.Proofs.YtcmdhfccdkjenaaGreatDoor
namespace Go.Proofs.YtcmdhfccdkjenaaGreatDoor
open Go.RowKit Go.Shelf

def LightT (l : List ByteArray) (e : Ending) : Prop := ∃ b, e = .returned (.bool b) ∧ (b = true → l.length ≤ 40 ∧ ∀ x ∈ l, x.size ≤ 40)
set_option maxHeartbeats 1000000 in
theorem law1_LightT (va : Value) (l : List ByteArray) (w : World) (ha : SlA w 1 va l.length (strs l)) (hl : ∀ s ∈ l, s.size ≤ 9223372036854775807) :
    Calls Tryz.prog 59 #[va] w fun e w' => LightT l e ∧ w' = w := by
  have HA := Lib.hid ha
  have HL := Lib.hid hl
  have hmax := ha.max
  obtain ⟨ao, cap, hva⟩ := ha.form
  subst hva
  clear ha hl
  go_enter Tryz.func59, Tryz.ntmps59
  by_cases h40 : 40 < l.length
  · have d : decide ((40 : Int) < (l.length : Int)) = true := by (rw [decide_eq_true_iff]; omega)
    go_wp2
    go_ret
    exact ⟨⟨false, rfl, fun h => by cases h⟩, rfl⟩
  have d : decide ((40 : Int) < (l.length : Int)) = false := by (rw [decide_eq_false_iff_not]; omega)
  go_wp2
  go_loop [10] (fun i => ∃ k : Nat, k ≤ l.length ∧ i = .int .i64 k ∧ Hid (∀ j (hj : j < l.length), j < k → l[j].size ≤ 40)) (fun i => l.length - (intOf i).toNat)
  case atStart => exact ⟨0, by omega, rfl, Lib.hid (fun j hj h => absurd h (by omega))⟩
  case round =>
    obtain ⟨k, hk, rfl, HS⟩ := hrel
    by_cases hlt : k < l.length
    · obtain ⟨b1, o1, c1, he1, hc1, hm1, hb1, hx1⟩ := HA.out.pos (by omega)
      simp only [Value.slice.injEq, true_and] at he1
      obtain ⟨rfl, rfl⟩ := he1
      have p0 := hx1 k _ (strs_get hlt)
      have hsz := HL.out l[k] (List.getElem_mem hlt)
      clear hx1
      by_cases h : 40 < l[k].size
      · have d1 : decide ((40 : Int) < (l[k].size : Int)) = true := by (rw [decide_eq_true_iff]; omega)
        clear h
        go_wp2
        go_ret
        exact ⟨⟨false, rfl, fun h => by cases h⟩, rfl⟩
      · have d1 : decide ((40 : Int) < (l[k].size : Int)) = false := by (rw [decide_eq_false_iff_not]; omega)
        have HS2 := Lib.hid (show ∀ j (hj : j < l.length), j < k + 1 → l[j].size ≤ 40 from fun j hj hjk => by
          by_cases e : j = k
          · subst e; omega
          · exact HS.out j hj (by omega))
        clear h HS
        go_wp2
        exact ⟨⟨k + 1, by omega, by go_num, HS2⟩, by simp [intOf]; omega⟩
    · go_wp2
      go_ret
      exact ⟨⟨true, rfl, fun _ => ⟨by omega, fun x hx => by obtain ⟨j, hj, rfl⟩ := List.getElem_of_mem hx; exact HS.out j hj (by omega)⟩⟩, rfl⟩
end Go.Proofs.YtcmdhfccdkjenaaGreatDoor
namespace Go.Proofs.YtcmdhfccdkjenaaGreatDoor
open Go.RowKit Go.Shelf

def Qv.okS (q : Qv) (w : World) : Prop := q.okN 40 w ∧ q.a.le 40 ∧ q.b.le 40
def LightQS (q : Qv) (w : World) (e : Ending) : Prop := ∃ b, e = .returned (.bool b) ∧ (b = true → q.okS w)
set_option maxRecDepth 100000 in
set_option maxHeartbeats 1000000 in
theorem law4_LightS (q : Qv) (w : World) (hq : q.ok w) : Calls Tryz.prog 26 #[qv q] w fun e w' => LightQS q w e ∧ Below w.heap.size w w' := by
  obtain ⟨ha, hb, ss, hs, hl⟩ := hq
  obtain ⟨k, ⟨x1, x2⟩, ⟨x3, x4⟩, wv⟩ := q
  have HS := Lib.hid (fun W h => law1_Light wv ss W h hl)
  have HQ := Lib.hid (fun (h : ss.length ≤ 40) (h4 : [x1, x2, x3, x4].length ≤ 40 ∧ ∀ x ∈ [x1, x2, x3, x4], x.size ≤ 40) => show (⟨k, ⟨x1, x2⟩, ⟨x3, x4⟩, wv⟩ : Qv).okS w from ⟨⟨ha, hb, ss, hs, h, hl⟩, ⟨h4.2 _ (by simp), h4.2 _ (by simp)⟩, ⟨h4.2 _ (by simp), h4.2 _ (by simp)⟩⟩)
  have HW := Lib.hid hs
  have H4 := Lib.hid (fun W h => law1_LightT (.slice (some ⟨w.heap.size + 1, 0, none⟩) 4 4) [x1, x2, x3, x4] W h (by
    intro s hs; simp at hs; rcases hs with rfl | rfl | rfl | rfl
    · exact ha.1
    · exact ha.2
    · exact hb.1
    · exact hb.2))
  obtain ⟨wo, wc, rfl⟩ := hs.form
  clear ha hb hl hs
  have HB := Lib.hid ((Below.refl _ w).alloc (Nat.le_refl _) (.cells #[.int .i64 k, .string x1, .string x2, .string x3, .string x4, .slice wo ss.length wc] 45))
  have HB2 := Lib.hid (HB.out.alloc HB.out.size (.cells #[.string x1, .string x2, .string x3, .string x4] 9))
  have S4 := Lib.hid (Sl.new (w.alloc (.cells #[.int .i64 k, .string x1, .string x2, .string x3, .string x4, .slice wo ss.length wc] 45)) [.string x1, .string x2, .string x3, .string x4] 9 1 4 (w.heap.size + 1) (by simp) rfl (by simp [maxLen]))
  go_enter Tryz.func26, Tryz.ntmps26
  go_wp2_with fail
  refine (HS.out _ (HW.out.below HB.out)).mono ?_
  rintro e w1 ⟨⟨b1, rfl, hb1⟩, rfl⟩
  have HB1 := Lib.hid hb1
  clear hb1
  cases b1 with
  | false =>
    go_wp2
    go_ret
    exact ⟨⟨false, rfl, fun h => by cases h⟩, HB.out⟩
  | true =>
    go_wp2_with fail
    refine (H4.out _ S4.out.a).mono ?_
    rintro e w1 ⟨⟨b2, rfl, hb2⟩, rfl⟩
    have HB4 := Lib.hid hb2
    clear hb2
    go_wp2
    go_ret
    exact ⟨⟨b2, rfl, fun h => HQ.out (HB1.out (by first | rfl | trivial)) (HB4.out h)⟩, HB2.out⟩
end Go.Proofs.YtcmdhfccdkjenaaGreatDoor
namespace Go.Proofs.YtcmdhfccdkjenaaGreatDoor
open Go.RowKit Go.Shelf

end Go.Proofs.YtcmdhfccdkjenaaGreatDoor
namespace Go.Proofs.YtcmdhfccdkjenaaGreatDoor
open Go.RowKit Go.Shelf

def b13 : ByteArray := ⟨#[66]⟩
def q13 (k : Int) (v : Value) : Qv := ⟨k, r12, noR, v⟩
theorem ex13_min : minS [s12] [r12] = [s12] := by kernel_rfl
theorem ex13_m {ps : List Pr} (h : LeastS [s12] (fun r x => (r, x) ∈ ps)) : membersP ps r12 = [b13] := by
  refine asc_uniqueB _ _ (membersP_asc _ _) (List.pairwise_singleton ..) (fun y => ?_)
  rw [membersP_mem, least_mem (fun s hs => by rw [List.mem_singleton.1 hs]; rfl) h]
  constructor
  · rintro ⟨s, hs, e1, e2⟩
    rw [List.mem_singleton.1 hs] at e2
    rw [← e2]; exact List.mem_singleton.2 rfl
  · intro hy
    rw [List.mem_singleton.1 hy]
    exact ⟨s12, List.mem_singleton.2 rfl, rfl, rfl⟩
theorem ex13_len : (maxS [s12] [] P12 N12).length = 9 := by
  unfold maxS rolesX
  rw [put12]
  kernel_rfl
theorem ex13_right {k : Int} {v : Value} (hk : k = 1 ∨ k = 3) : RightP [s12] [] [r12] [q13 k v] (fun _ => [b13]) := by
  have h1 : ∀ x ∈ [s12], rightS x = true := fun x hx => by rw [List.mem_singleton.1 hx]; exact ex12_right
  have h2 : ∀ x ∈ [] ++ [r12], isRole x = true := fun x hx => by
    rw [List.nil_append] at hx
    rw [List.mem_singleton.1 hx]; kernel_rfl
  rcases hk with rfl | rfl
  · exact ⟨h1, h2, fun x hx => by rw [List.mem_singleton.1 hx]; kernel_rfl, by kernel_rfl, by kernel_rfl, by kernel_rfl, by kernel_rfl⟩
  · exact ⟨h1, h2, fun x hx => by rw [List.mem_singleton.1 hx]; kernel_rfl, by kernel_rfl, by kernel_rfl, by kernel_rfl, by kernel_rfl⟩
theorem ex13_in {w : World} {a0 a2 : Nat} {k : Int} {v : Value} (hk : k = 1 ∨ k = 3) (hT : TB w) (h1 : Sl w 9 (.slice (some ⟨a0, 0, none⟩) 1 1) 1 ([s12].flatMap St.cells)) (h2 : Sl w 2 (.slice (some ⟨a2, 0, none⟩) 1 1) 1 ([r12].flatMap Rl.cells)) (h3 : Sl w 1 v 1 (strs [b13])) :
    SimIn w (.slice (some ⟨a0, 0, none⟩) 1 1) (.slice none 0 0) (.slice (some ⟨a2, 0, none⟩) 1 1) (.slice none 0 0) [s12] [] [r12] [] (q13 k v) [b13] P12 N12 := by
  have hle : ∀ s ∈ [s12], s.le 40 := fun s hs => by
    rw [List.mem_singleton.1 hs]
    simp only [s12, r12, St.le, Rl.le, noR, ByteArray.size]; decide
  have hr : r12.le 40 := ⟨by decide, by decide⟩
  have hn : noR.le 40 := ⟨by decide, by decide⟩
  have hu : ∀ s ∈ [b13], s.size ≤ 9223372036854775807 := fun s hs => by rw [List.mem_singleton.1 hs]; decide
  refine ⟨⟨h1.a, (Sl.nil _ _).a, h2.a, (Sl.nil _ _).a, fun s hs => (hle s hs).mono (by decide), fun _ h => (by cases h), fun x hx => ?_, fun _ h => (by cases h)⟩, h3.a, ⟨hr.mono (by decide), hn.mono (by decide), [b13], h3.a, hu⟩, by decide, by decide, by decide, hle, fun x hx => ?_, hr, hn, by decide, hu, hT, ex13_right hk, ?_, ?_, ?_, by decide, by decide⟩
  · rw [List.mem_singleton.1 hx]; exact hr.mono (by decide)
  · rw [List.nil_append] at hx
    rw [List.mem_singleton.1 hx]; exact hr
  · show ¬ k = 6
    rcases hk with rfl | rfl <;> decide
  · rcases hk with rfl | rfl <;> kernel_rfl
  · rcases hk with rfl | rfl <;> kernel_rfl
section
variable {w : World} {a0 a2 : Nat} {v : Value}
theorem ex13_D1 (P : SimIn w (.slice (some ⟨a0, 0, none⟩) 1 1) (.slice none 0 0) (.slice (some ⟨a2, 0, none⟩) 1 1) (.slice none 0 0) [s12] [] [r12] [] (q13 1 v) [b13] P12 N12) :
    Calls Tryz.prog 28 #[pv (.slice (some ⟨a0, 0, none⟩) 1 1) (.slice none 0 0) (.slice (some ⟨a2, 0, none⟩) 1 1) (.slice none 0 0), qv (q13 1 v)] w fun e w' => ∃ (a : Option Addr) (c st : Nat), e = .returned (.tuple #[.agg #[.int .i64 1, .slice a 0 c, .int .i64 st, .int .i64 0], .int .i64 0]) ∧ Below w.heap.size w w' := by
  refine (sim_Decide P).mono ?_
  rintro e w' ⟨⟨a, c, st, T, ps, rfl, hps, _, hT⟩, hb⟩
  have hS : decS (q13 1 v).k [s12] [] [r12] P12 N12 = [s12] := by unfold decS; rw [if_pos (.inl rfl)]; exact ex13_min
  rw [hS] at hps
  have hs : satQ (membersP ps) (q13 1 v) [b13] = true := by
    show (if (1 : Int) = 1 ∨ (1 : Int) = 2 then insideB [b13] (membersP ps r12) else _) = true
    rw [if_pos (.inl rfl), ex13_m hps]
    kernel_rfl
  rw [hs] at hT ⊢
  rw [hT]
  exact ⟨a, c, st, rfl, hb⟩
theorem ex13_D3 (P : SimIn w (.slice (some ⟨a0, 0, none⟩) 1 1) (.slice none 0 0) (.slice (some ⟨a2, 0, none⟩) 1 1) (.slice none 0 0) [s12] [] [r12] [] (q13 3 v) [b13] P12 N12) :
    Calls Tryz.prog 28 #[pv (.slice (some ⟨a0, 0, none⟩) 1 1) (.slice none 0 0) (.slice (some ⟨a2, 0, none⟩) 1 1) (.slice none 0 0), qv (q13 3 v)] w fun e w' => ∃ (a : Option Addr) (c st : Nat), e = .returned (.tuple #[.agg #[.int .i64 2, .slice a 9 c, .int .i64 st, .int .i64 0], .int .i64 0]) ∧ Below w.heap.size w w' := by
  refine (sim_Decide P).mono ?_
  rintro e w' ⟨⟨a, c, st, T, ps, rfl, hps, _, hT⟩, hb⟩
  have hS : decS (q13 3 v).k [s12] [] [r12] P12 N12 = maxS [s12] [] P12 N12 := by unfold decS; exact if_neg (by show ¬ ((3 : Int) = 1 ∨ (3 : Int) = 4); decide)
  rw [hS] at hps hT
  have hs : satQ (membersP ps) (q13 3 v) [b13] = false := by
    show (if (3 : Int) = 1 ∨ (3 : Int) = 2 then insideB [b13] (membersP ps r12) else if (3 : Int) = 3 then insideB (membersP ps r12) [b13] else _) = false
    rw [if_neg (by decide), if_pos rfl, ex12_q hps]
    kernel_rfl
  rw [hs] at hT ⊢
  have hl : T.length = 9 := by rw [hT]; exact ex13_len
  rw [hl]
  exact ⟨a, c, st, rfl, hb⟩
end
structure Ex13 (w : World) (wx : World) : Prop where
  r : Blk wx w.heap.size #[.string ⟨#[65]⟩, .string ⟨#[114]⟩]
  p : Blk wx (w.heap.size + 1 + 1 + 1) #[.slice (some ⟨w.heap.size + 1, 0, none⟩) 1 1, .slice none 0 0, .slice (some ⟨w.heap.size + 1 + 1, 0, none⟩) 1 1, .slice none 0 0]
  low : Below w.heap.size w wx
theorem Ex13.later {w wx w' : World} (h : Ex13 w wx) (hb : Below wx.heap.size wx w') : Ex13 w w' := ⟨h.r.below hb, h.p.below hb, h.low.trans (hb.mono h.low.size)⟩
set_option maxRecDepth 100000 in
set_option maxHeartbeats 8000000 in
theorem law13_lives (w : World) (hT : TB w) : Calls Tryz.prog 27 #[] w fun e w' => e = .returned (.bool true) ∧ Below w.heap.size w w' := by
  have HTB := Lib.hid hT
  clear hT
  go_enter Tryz.func27, Tryz.ntmps27
  go_wp2_with fail
  obtain ⟨wb, hwb⟩ : ∃ V, V = (((((w.alloc (.cells #[.string ⟨#[65]⟩, .string ⟨#[114]⟩] 28)).alloc (.cells #[.int .i64 1, .string ⟨#[65]⟩, .string ⟨#[114]⟩, .string ⟨#[66]⟩, .string emp, .string emp, .string emp, .string emp, .string emp] 35)).alloc (.cells #[.string ⟨#[65]⟩, .string ⟨#[114]⟩] 28)).alloc (.cells #[.slice (some ⟨w.heap.size + 1, 0, none⟩) 1 1, .slice none 0 0, .slice (some ⟨w.heap.size + 1 + 1, 0, none⟩) 1 1, .slice none 0 0] 26)).alloc (.cells #[.string ⟨#[66]⟩] 9)) := ⟨_, rfl⟩
  have FV := five_at w (.cells #[.string ⟨#[65]⟩, .string ⟨#[114]⟩] 28) (.cells #[.int .i64 1, .string ⟨#[65]⟩, .string ⟨#[114]⟩, .string ⟨#[66]⟩, .string emp, .string emp, .string emp, .string emp, .string emp] 35) (.cells #[.string ⟨#[65]⟩, .string ⟨#[114]⟩] 28) (.cells #[.slice (some ⟨w.heap.size + 1, 0, none⟩) 1 1, .slice none 0 0, .slice (some ⟨w.heap.size + 1 + 1, 0, none⟩) 1 1, .slice none 0 0] 26) (.cells #[.string ⟨#[66]⟩] 9)
  rw [← hwb] at FV
  obtain ⟨f0, f1, f2, f3, f4⟩ := FV
  have hlow : Below w.heap.size w wb := by rw [hwb]; exact (((((Below.refl _ _).alloc (Nat.le_refl _) _).alloc (by simp) _).alloc (by simp; omega) _).alloc (by simp; omega) _).alloc (by simp; omega) _
  have HT := Lib.hid (show Ex13 w wb from ⟨blk_of f0, blk_of f3, hlow⟩)
  have HS1 := Lib.hid (show Sl wb 9 (.slice (some ⟨w.heap.size + 1, 0, none⟩) 1 1) 1 ([s12].flatMap St.cells) from row_at f1 9 1 rfl (by simp [maxLen]))
  have HS2 := Lib.hid (show Sl wb 2 (.slice (some ⟨w.heap.size + 1 + 1, 0, none⟩) 1 1) 1 ([r12].flatMap Rl.cells) from row_at f2 2 1 rfl (by simp [maxLen]))
  have HS4 := Lib.hid (show Sl wb 1 (.slice (some ⟨w.heap.size + 1 + 1 + 1 + 1, 0, none⟩) 1 1) 1 (strs [b13]) from row_at f4 1 1 rfl (by simp [maxLen]))
  have D1 := Lib.hid (ex13_D1 (ex13_in (.inl rfl) (HTB.out.below hlow) HS1.out HS2.out HS4.out))
  have D3 := Lib.hid (fun W v (hb : Below wb.heap.size wb W) (h3 : Sl W 1 v 1 (strs [b13])) => ex13_D3 (ex13_in (.inr rfl) (HTB.out.below (hlow.trans (hb.mono hlow.size))) (HS1.out.below hb) (HS2.out.below hb) h3))
  rw [← hwb]
  clear hwb f0 f1 f2 f3 f4 hlow HS1 HS2 HS4
  refine D1.out.mono ?_
  rintro e w1 ⟨a1, c1, st1, rfl, hb1⟩
  have HT := Lib.hid (HT.out.later hb1)
  have HB1 := Lib.hid hb1
  clear hb1 D1
  obtain ⟨cr, fr, zr⟩ := HT.out.r
  obtain ⟨cp, fp, zp⟩ := HT.out.p
  go_wp2_with fail
  have HV1 := Lib.hid (show Blk ((w1.alloc (.cells #[.int .i64 1, .slice a1 0 c1, .int .i64 st1, .int .i64 0] 48)).alloc (.cells #[.string ⟨#[66]⟩] 9)) w1.heap.size #[.int .i64 1, .slice a1 0 c1, .int .i64 st1, .int .i64 0] from (Blk.new w1 _ _).alloc _)
  have HS5 := Lib.hid (show Sl ((w1.alloc (.cells #[.int .i64 1, .slice a1 0 c1, .int .i64 st1, .int .i64 0] 48)).alloc (.cells #[.string ⟨#[66]⟩] 9)) 1 (.slice (some ⟨w1.heap.size + 1, 0, none⟩) 1 1) 1 (strs [b13]) from Sl.new _ _ _ 1 1 (w1.heap.size + 1) (by simp) rfl (by simp [maxLen]))
  have HB2 := Lib.hid (show Below wb.heap.size wb ((w1.alloc (.cells #[.int .i64 1, .slice a1 0 c1, .int .i64 st1, .int .i64 0] 48)).alloc (.cells #[.string ⟨#[66]⟩] 9)) from (HB1.out.alloc HB1.out.size _).alloc (by have := HB1.out.size; simp; omega) _)
  have HT := Lib.hid (HT.out.later (((Below.refl w1.heap.size w1).alloc (Nat.le_refl _) (.cells #[.int .i64 1, .slice a1 0 c1, .int .i64 st1, .int .i64 0] 48)).alloc (by simp) (.cells #[.string ⟨#[66]⟩] 9)))
  clear cr fr zr cp fp zp HB1
  refine (D3.out _ _ HB2.out HS5.out).mono ?_
  rintro e w2 ⟨a2, c2, st2, rfl, hb2⟩
  have HV1 := Lib.hid (HV1.out.below hb2)
  have HT := Lib.hid (HT.out.later hb2)
  clear hb2 D3 HS5 HB2
  obtain ⟨cv, fv, zv⟩ := HV1.out
  go_wp2_with fail
  refine (sim_Holds 1 st1 0 (.slice a1 0 c1) ⟨_, _, _, rfl⟩ _).mono ?_
  rintro e w3 ⟨rfl, hb3⟩
  have HV2 := Lib.hid ((Blk.new w2 #[.int .i64 2, .slice a2 9 c2, .int .i64 st2, .int .i64 0] 48).below hb3)
  have HT := Lib.hid ((HT.out.later ((Below.refl _ w2).alloc (Nat.le_refl _) _)).later hb3)
  clear hb3 cv fv zv
  obtain ⟨cv, fv, zv⟩ := HV2.out
  go_wp2_with fail
  refine (sim_Holds 2 st2 0 (.slice a2 9 c2) ⟨_, _, _, rfl⟩ _).mono ?_
  rintro e w4 ⟨rfl, hb4⟩
  have HT := Lib.hid (HT.out.later hb4)
  clear hb4 cv fv zv
  go_wp2_with fail
  go_ret
  exact ⟨by first | rfl | simp, HT.out.low⟩
end Go.Proofs.YtcmdhfccdkjenaaGreatDoor
namespace Go.Proofs.YtcmdhfccdkjenaaGreatDoor
open Go.RowKit Go.Shelf

set_option maxRecDepth 100000 in
set_option maxHeartbeats 4000000 in
theorem law13_Sat1 (c : Nat) (v6 : Value) (ps : List Pr) (r : Rl) (w : World) (hc : Blk w c #[v6]) (h6 : SlA w 3 v6 ps.length (ps.flatMap pcells)) (hn : ps.length ≤ 10000) :
    Calls Tryz.prog 37 #[rv r, .pointer (some ⟨c, 0, none⟩)] w fun e w' => ∃ v, e = .returned v ∧ SlA w' 1 v (membersP ps r).length (strs (membersP ps r)) ∧ Below w.heap.size w w' := by
  have hw : Below w.heap.size w (w.alloc (.cells #[.string r.o, .string r.n] 28)) := (Below.refl _ _).alloc (Nat.le_refl _) _
  have RM := Lib.hid (ref11_Members v6 ps r _ (h6.below hw) hn)
  have HW := Lib.hid hw
  obtain ⟨a6, c6, rfl⟩ := h6.form
  obtain ⟨cc, fc, zc⟩ := hc
  have hlt : c < w.heap.size := zc
  clear h6 hw
  obtain ⟨r1, r2⟩ := r
  go_enter Tryz.func37, Tryz.ntmps37
  go_wp2_with fail
  refine RM.out.mono ?_
  rintro e w1 ⟨v, rfl, hs, hb⟩
  have HS := Lib.hid hs
  have HB := Lib.hid (HW.out.trans (hb.mono HW.out.size))
  obtain ⟨a1, c1, rfl⟩ := hs.form
  clear hs hb RM
  go_wp2
  go_ret
  exact ⟨_, rfl, HS.out, HB.out⟩
theorem sim_SatP {c g : Nat} {v6 : Value} {ps : List Pr} {q : Qv} {us : List ByteArray} {w : World} (hu : SlA w 1 q.w us.length (strs us)) (hc : Blk w c #[v6]) (h6 : SlA w 3 v6 ps.length (ps.flatMap pcells)) (hn : ps.length ≤ 10000) :
    Calls Tryz.prog 38 #[.func (.func 37) #[] #[.pointer (some ⟨c, 0, none⟩)], qv q] w fun e w' => e = .returned (.bool (satQ (membersP ps) q us)) ∧ Below w.heap.size w w' := by
  refine sim_Satisfies _ _ _ (enters_of Tryz.func37 (by kernel_rfl) rfl) _ q us w hu (fun r V hV => ?_)
  have := (law13_Sat1 c v6 ps r V (hc.below hV) (h6.below hV) hn).mono (R' := fun e w' => ∃ a c, e = .returned (.slice a (membersP ps r).length c) ∧ SlA w' 1 (.slice a (membersP ps r).length c) (membersP ps r).length (strs (membersP ps r)) ∧ Below V.heap.size V w') (by
    rintro e w' ⟨v, rfl, hsl, hb'⟩
    obtain ⟨a, c, rfl⟩ := hsl.form
    exact ⟨a, c, rfl, hsl, hb'⟩)
  simpa using this
set_option maxRecDepth 100000 in
set_option maxHeartbeats 16000000 in
theorem law13_SimpleSatisfies (vl : Value) (l : List St) (q : Qv) (w : World) (hl : SlA w 9 vl l.length (l.flatMap St.cells)) (hle : allLe l 9223372036854775807) (hq : q.ok w) (hT : TB w) :
    Calls Tryz.prog 5 #[vl, qv q] w fun e w' => e = .returned (.bool true) ∧ Below w.heap.size w w' := by
  have HL := Lib.hid (fun W hb => law13_lives W (hT.below (w' := W) hb))
  have LC := Lib.hid (fun W hb => law10_Light vl l W (hl.below (w' := W) hb) hle)
  have LQ := Lib.hid (fun W (hb : Below w.heap.size w W) => law4_LightS q W (hq.below hb))
  have HC := Lib.hid hl
  obtain ⟨_, _, us, hu, hz⟩ := hq
  have HU := Lib.hid hu
  obtain ⟨xk, ⟨x1, x2⟩, ⟨x3, x4⟩, wv⟩ := q
  obtain ⟨wo, wc, e1⟩ := hu.form
  dsimp only at e1 HU
  subst e1
  obtain ⟨cm, cc, rfl⟩ := hl.form
  have HT := Lib.hid (show OneAt w #[.int .i64 xk, .string x1, .string x2, .string x3, .string x4, .slice wo us.length wc] (w.alloc (.cells #[.int .i64 xk, .string x1, .string x2, .string x3, .string x4, .slice wo us.length wc] 45)) from ⟨Blk.new w _ _, (Below.refl _ _).alloc (Nat.le_refl _) _⟩)
  clear hl hle hT hu hz
  go_enter Tryz.func5, Tryz.ntmps5
  go_wp2_with fail
  refine (LC.out _ HT.out.low).mono ?_
  rintro e w1 ⟨bc, rfl, hlc, hb1⟩
  have HT := Lib.hid (HT.out.later hb1)
  have HLC := Lib.hid hlc
  clear hlc hb1 LC
  cases bc with
  | false =>
    go_wp2_with fail
    refine (HL.out _ HT.out.low).mono ?_
    rintro e w6 ⟨rfl, hb6⟩
    have T6 := Lib.hid (HT.out.later hb6)
    clear hb6
    go_wp2
    go_ret
    exact ⟨rfl, T6.out.low⟩
  | true =>
  obtain ⟨hm40, hmle⟩ := HLC.out (by first | rfl | trivial)
  have BD := Lib.hid (sound_bound hm40)
  clear HLC hmle
  obtain ⟨ca, fa, za⟩ := HT.out.a
  go_wp2_with fail
  refine (LQ.out _ HT.out.low).mono ?_
  rintro e w2 ⟨⟨bq, rfl, hlq⟩, hb2⟩
  have HT := Lib.hid (HT.out.later hb2)
  clear hlq hb2 LQ ca fa za
  cases bq with
  | false =>
    go_wp2_with fail
    refine (HL.out _ HT.out.low).mono ?_
    rintro e w6 ⟨rfl, hb6⟩
    have T6 := Lib.hid (HT.out.later hb6)
    clear hb6
    go_wp2
    go_ret
    exact ⟨rfl, T6.out.low⟩
  | true =>
  go_wp2_with fail
  refine (ref11_Eval (.slice cm l.length cc) l 1600 _ (HC.out.below HT.out.low) (by omega) BD.out).mono ?_
  rintro e w3 ⟨v6, ps, rfl, ho6, _, _, hpl, hb3⟩
  obtain ⟨a6, c6, rfl⟩ := own_form ho6
  have HT := Lib.hid (HT.out.later hb3)
  have HS6 := Lib.hid (Sl.of_own ho6).a
  clear ho6 hb3 BD HC
  go_wp2_with fail
  have hnw : Below w3.heap.size w3 (w3.alloc (.cells #[.slice a6 ps.length c6] 41)).drew := below_drew ((Below.refl _ _).alloc (Nat.le_refl _) _)
  have HT := HT.out.later hnw
  have HX := Lib.hid ((Blk.new w3 #[.slice a6 ps.length c6] 41).below (below_drew (Below.refl _ _)))
  have HS6 := Lib.hid (HS6.out.below hnw)
  clear hnw
  refine wp_region_held_drew (S := (fun W => (∀ o, W.cell? ⟨w.heap.size, o, none⟩ = (#[.int .i64 xk, .string x1, .string x2, .string x3, .string x4, .slice wo us.length wc] : Array Value)[o]?) ∧ ∀ o, W.cell? ⟨w3.heap.size, o, none⟩ = (#[.slice a6 ps.length c6] : Array Value)[o]?)) (by kernel_rfl) ⟨HT.a.1, HX.out.1⟩ (fun hHeld => ?_)
  obtain ⟨wk, hwk⟩ : ∃ W, W = (w3.alloc (.cells #[.slice a6 ps.length c6] 41)).drew := ⟨_, rfl⟩
  rw [← hwk] at HT HX HS6 hHeld ⊢
  clear hwk
  have SAT := Lib.hid (sim_SatP (q := ⟨xk, ⟨x1, x2⟩, ⟨x3, x4⟩, .slice wo us.length wc⟩) (g := 0) (HU.out.below HT.low) HX.out HS6.out (by omega))
  (refine held_yes (v := ?_) 0 rfl (by kernel_rfl) (by kernel_rfl) (by kernel_rfl) (fun _ _ _ h => h) (by rfl) (by assumption) ?_ ?_; rotate_left; (focus ((intro w hSw); (try dsimp only at hSw); go_simp; (try with_reducible rfl))); (try simp only [Act.put, List.setIfInBounds_toArray, List.set_cons_zero, List.set_cons_succ])); (refine held_yes (v := ?_) 1 rfl (by kernel_rfl) (by kernel_rfl) (by kernel_rfl) (fun _ _ _ h => h) (by rfl) (by assumption) ?_ ?_; rotate_left; (focus ((intro w hSw); (try dsimp only at hSw); go_simp; (try with_reducible rfl))); (try simp only [Act.put, List.setIfInBounds_toArray, List.set_cons_zero, List.set_cons_succ])); (refine held_yes (v := ?_) 3 rfl (by kernel_rfl) (by kernel_rfl) (by kernel_rfl) (fun _ _ _ h => h) (by rfl) (by assumption) ?_ ?_; rotate_left; (focus ((intro w hSw); (try dsimp only at hSw); go_simp; (try with_reducible rfl))); (try simp only [Act.put, List.setIfInBounds_toArray, List.set_cons_zero, List.set_cons_succ])); (refine held_yes (v := ?_) 4 rfl (by kernel_rfl) (by kernel_rfl) (by kernel_rfl) (fun _ _ _ h => h) (by rfl) (by assumption) ?_ ?_; rotate_left; (focus ((intro w hSw); (try dsimp only at hSw); go_simp; (try with_reducible rfl))); (try simp only [Act.put, List.setIfInBounds_toArray, List.set_cons_zero, List.set_cons_succ]))
  (refine held_call 2 rfl (by kernel_rfl) (fun K hK => ?_); go_simp)
  go_at_call 38; refine (SAT.out).mono ?_; rintro e wz2 ⟨rfl, hbq⟩
  have HT := HT.later hbq
  have HS6 := Lib.hid (HS6.out.below hbq)
  have HX := Lib.hid (HX.out.below hbq)
  clear hbq
  (refine hK.out _ _ (⟨HT.a.1, HX.out.1⟩) (fun hHeld => ?_); clear hK K; (try simp only [Act.put, List.setIfInBounds_toArray, List.set_cons_zero, List.set_cons_succ]))
  (refine held_call 5 rfl (by kernel_rfl) (fun K hK => ?_); go_simp)
  go_at_call 39; refine (ref13_Satisfies (.slice a6 ps.length c6) ps ⟨xk, ⟨x1, x2⟩, ⟨x3, x4⟩, .slice wo us.length wc⟩ us _ HS6.out (by omega) (HU.out.below HT.low)).mono ?_; rintro e wz5 ⟨rfl, hbq⟩
  have HT := HT.later hbq
  have HS6 := Lib.hid (HS6.out.below hbq)
  have HX := Lib.hid (HX.out.below hbq)
  clear hbq
  (refine hK.out _ _ (⟨HT.a.1, HX.out.1⟩) (fun hHeld => ?_); clear hK K; (try simp only [Act.put, List.setIfInBounds_toArray, List.set_cons_zero, List.set_cons_succ]))
  (refine held_yes (v := ?_) 6 rfl (by kernel_rfl) (by kernel_rfl) (by kernel_rfl) (fun _ _ _ h => h) (by rfl) (by assumption) ?_ ?_; rotate_left; (focus ((intro w hSw); (try dsimp only at hSw); go_simp; (try with_reducible rfl))); (try simp only [Act.put, List.setIfInBounds_toArray, List.set_cons_zero, List.set_cons_succ])); (refine held_yes (v := ?_) 7 rfl (by kernel_rfl) (by kernel_rfl) (by kernel_rfl) (fun _ _ _ h => h) (by rfl) (by assumption) ?_ ?_; rotate_left; (focus ((intro w hSw); (try dsimp only at hSw); go_simp; (try with_reducible rfl))); (try simp only [Act.put, List.setIfInBounds_toArray, List.set_cons_zero, List.set_cons_succ]))
  (refine held_call 8 rfl (by kernel_rfl) (fun K hK => ?_); go_simp)
  go_at_call 27; refine (HL.out _ HT.low).mono ?_; rintro e wz8 ⟨rfl, hbq⟩
  have HT := HT.later hbq
  have HS6 := Lib.hid (HS6.out.below hbq)
  have HX := Lib.hid (HX.out.below hbq)
  clear hbq
  (refine hK.out _ _ (⟨HT.a.1, HX.out.1⟩) (fun hHeld => ?_); clear hK K; (try simp only [Act.put, List.setIfInBounds_toArray, List.set_cons_zero, List.set_cons_succ]))
  (refine held_yes (v := ?_) 9 rfl (by kernel_rfl) (by kernel_rfl) (by kernel_rfl) (fun _ _ _ h => h) (by rfl) (by assumption) ?_ ?_; rotate_left; (focus ((intro w hSw); (try dsimp only at hSw); go_simp; (try with_reducible rfl))); (try simp only [Act.put, List.setIfInBounds_toArray, List.set_cons_zero, List.set_cons_succ])); (refine held_yes (v := ?_) 10 rfl (by kernel_rfl) (by kernel_rfl) (by kernel_rfl) (fun _ _ _ h => h) (by rfl) (by assumption) ?_ ?_; rotate_left; (focus ((intro w hSw); (try dsimp only at hSw); go_simp; (try with_reducible rfl))); (try simp only [Act.put, List.setIfInBounds_toArray, List.set_cons_zero, List.set_cons_succ]))
  refine wpAnyH_done (by kernel_rfl) ?_ _
  have HZ := Lib.hid HT.low
  clear HT
  go_wp2_with fail
  go_ret
  exact ⟨rfl, HZ.out⟩
end Go.Proofs.YtcmdhfccdkjenaaGreatDoor
namespace Go.Proofs.YtcmdhfccdkjenaaGreatDoor
open Go.ChangeShapes Go.WideShapes Go.ChangeAt Go.RowKit

section
variable {H : Type} {enc : TypeId × Value → H} {w : World} {base fuel n : Nat} {sp : Nat → Bool} {held : Bool} {cs : List Value} {x : DataW H × List MemPlace} {v : Value} {d : DataW H} {ps : List MemPlace}
def dStr (H : Type) (s : ByteArray) : DataW H := .lit (.string s.data.toList)
def dRl (H : Type) (r : Rl) : DataW H := .agg [dStr H r.o, dStr H r.n]
def dSt (H : Type) (s : St) : DataW H := .agg [.lit (.int .i64 s.k), dRl H s.h, dStr H s.who, dRl H s.a, dRl H s.b, dStr H s.via]
/-- A statement whose parts are such as a world may hold. -/
def St.fits (s : St) : Prop := s.le maxLen ∧ (Lit.int IntKind.i64 s.k).wf = true

theorem two_of (h : cs.length = 2) : ∃ a b, cs = [a, b] := by
  match cs, h with
  | [a, b], _ => exact ⟨a, b, rfl⟩
theorem trod_role (h : DataW.trod enc Tryz.prog w base sp held fuel 28 cs = some x) : ∃ r : Rl, cs = r.cells ∧ x = (dRl H r, []) ∧ r.le maxLen := by
  obtain ⟨xs, n, _, rfl, hl, hlen, hf⟩ := DataW.trod_struct Tryz.underlying28 h
  have hc : Tryz.prog.cellsOf 28 = 2 := by kernel_rfl
  have hs : Tryz.prog.cellsOf 9 = 1 := by kernel_rfl
  rw [hc] at hl
  obtain ⟨a, b, rfl⟩ := two_of hl
  have f0 : DataW.trod enc Tryz.prog w base sp held n 9 [a] = xs[0]? := by simpa [hs] using hf 0 _ rfl
  have f1 : DataW.trod enc Tryz.prog w base sp held n 9 [b] = xs[1]? := by simpa [hs] using hf 1 _ rfl
  match xs, hlen with
  | [y0, y1], _ =>
    simp only [List.getElem?_cons_zero, List.getElem?_cons_succ] at f0 f1
    obtain ⟨s0, e0, g0, l0⟩ := DataW.trod_string Tryz.underlying9 f0
    obtain ⟨s1, e1, g1, l1⟩ := DataW.trod_string Tryz.underlying9 f1
    simp only [List.cons.injEq, and_true] at e0 e1
    subst e0 e1 g0 g1
    exact ⟨⟨s0, s1⟩, rfl, rfl, l0, l1⟩
theorem nine_of (h : cs.length = 9) : ∃ a b c d e f g i j, cs = [a, b, c, d, e, f, g, i, j] := by
  match cs, h with
  | [a, b, c, d, e, f, g, i, j], _ => exact ⟨a, b, c, d, e, f, g, i, j, rfl⟩
theorem trod_stmt (h : DataW.trod enc Tryz.prog w base sp held fuel 35 cs = some x) : ∃ s : St, cs = s.cells ∧ x = (dSt H s, []) ∧ s.fits := by
  obtain ⟨xs, n, _, rfl, hl, hlen, hf⟩ := DataW.trod_struct Tryz.underlying35 h
  have hc : Tryz.prog.cellsOf 35 = 9 := by kernel_rfl
  have hr : Tryz.prog.cellsOf 28 = 2 := by kernel_rfl
  have hi : Tryz.prog.cellsOf 3 = 1 := by kernel_rfl
  have hs : Tryz.prog.cellsOf 9 = 1 := by kernel_rfl
  rw [hc] at hl
  obtain ⟨c0, c1, c2, c3, c4, c5, c6, c7, c8, rfl⟩ := nine_of hl
  have f0 : DataW.trod enc Tryz.prog w base sp held n 3 [c0] = xs[0]? := by simpa [hi] using hf 0 _ rfl
  have f1 : DataW.trod enc Tryz.prog w base sp held n 28 [c1, c2] = xs[1]? := by simpa [hr] using hf 1 _ rfl
  have f2 : DataW.trod enc Tryz.prog w base sp held n 9 [c3] = xs[2]? := by simpa [hs] using hf 2 _ rfl
  have f3 : DataW.trod enc Tryz.prog w base sp held n 28 [c4, c5] = xs[3]? := by simpa [hr] using hf 3 _ rfl
  have f4 : DataW.trod enc Tryz.prog w base sp held n 28 [c6, c7] = xs[4]? := by simpa [hr] using hf 4 _ rfl
  have f5 : DataW.trod enc Tryz.prog w base sp held n 9 [c8] = xs[5]? := by simpa [hs] using hf 5 _ rfl
  match xs, hlen with
  | [y0, y1, y2, y3, y4, y5], _ =>
    simp only [List.getElem?_cons_zero, List.getElem?_cons_succ] at f0 f1 f2 f3 f4 f5
    obtain ⟨k, e0, g0, l0⟩ := DataW.trod_int Tryz.underlying3 f0
    obtain ⟨r1, e1, g1, l1⟩ := trod_role f1
    obtain ⟨s2, e2, g2, l2⟩ := DataW.trod_string Tryz.underlying9 f2
    obtain ⟨r3, e3, g3, l3⟩ := trod_role f3
    obtain ⟨r4, e4, g4, l4⟩ := trod_role f4
    obtain ⟨s5, e5, g5, l5⟩ := DataW.trod_string Tryz.underlying9 f5
    simp only [Rl.cells, List.cons.injEq, and_true] at e0 e1 e2 e3 e4 e5
    obtain ⟨rfl, rfl⟩ := e1
    obtain ⟨rfl, rfl⟩ := e3
    obtain ⟨rfl, rfl⟩ := e4
    subst e0 e2 e5 g0 g1 g2 g3 g4 g5
    exact ⟨⟨k, r1, s2, r3, r4, s5⟩, rfl, rfl, ⟨l1, l2, l3, l4, l5⟩, l0⟩
end
end Go.Proofs.YtcmdhfccdkjenaaGreatDoor
namespace Go.Proofs.YtcmdhfccdkjenaaGreatDoor
open Go.ChangeShapes Go.WideShapes Go.ChangeAt Go.RowKit Go.Deep

theorem laid_out : laidOutB Tryz.prog = true := by kernel_rfl
set_option maxRecDepth 100000 in
theorem open_sts {H : Type} {enc : TypeId × Value → H} {w : World} {base b0 : Nat} {held : Bool} {r : Reach} {v : Value} {d : DataW H} {ps : List MemPlace} (hval : Value.okWide Tryz.prog w r b0 22 v)
    (hd : DataW.Trod enc Tryz.prog w base (fun _ => true) held 22 v d ps) : ∃ l : List St, SlA w 9 v l.length (l.flatMap St.cells) ∧ ∀ s ∈ l, s.fits := by
  obtain ⟨a0, len, cap, rfl⟩ := okWide_slice Tryz.underlying22 hval
  obtain ⟨fuel, hf⟩ := hd
  have hc : Tryz.prog.cellsOf 35 = 9 := by kernel_rfl
  rcases open_slice Tryz.underlying22 hf with ⟨hcs, _⟩ | ⟨a, len', cap', m, n, D, Pl, hcs, _, hl, hm, hmm, _, hx⟩
  · simp [Value.cells] at hcs
    obtain ⟨rfl, rfl, rfl⟩ := hcs
    exact ⟨[], (Sl.nil _ _).a, fun s hs => by cases hs⟩
  · simp [Value.cells] at hcs
    obtain ⟨rfl, rfl, rfl⟩ := hcs
    simp only [if_true] at hmm
    subst hmm
    rw [hc] at hx
    have hex : ∀ i, i < m → ∃ s : St, w.cells? base (a.add (i * 9)) 9 = some s.cells ∧ s.fits := by
      intro i hi
      obtain ⟨cs', h1, h2⟩ := hx i hi
      obtain ⟨s, rfl, _, hs⟩ := trod_stmt h2
      exact ⟨s, h1, hs⟩
    obtain ⟨S, hS⟩ := choose_lt hex
    obtain ⟨b, off, spot⟩ := a
    by_cases h0 : 0 < len
    · have c0 := (World.cells?_some (hS 0 (by omega)).1).2.2 0 (by omega)
      have hspot : spot = none := by simpa [Addr.add] using World.cell?_spot (c0.trans rfl)
      subst hspot
      have hlen : ((List.range len).map S).length = len := by simp
      have hcell : ∀ j u, (((List.range len).map S).flatMap St.cells)[j]? = some u → w.cell? ⟨b, off + j, none⟩ = some u := by
        intro j u hu
        have hj : j < len * 9 := by
          have := (List.getElem?_eq_some_iff.1 hu).1
          rwa [flat_len St.cells 9 St.cells_len, hlen] at this
        have hf9 : j % 9 < 9 := Nat.mod_lt _ (by decide)
        have hi : j / 9 < len := by omega
        have e : j = j / 9 * 9 + j % 9 := by omega
        rw [e, flat_get St.cells 9 St.cells_len _ (j / 9) (j % 9) hf9 (S (j / 9)) (by simp [hi])] at hu
        have h1 := (World.cells?_some (hS (j / 9) (by omega)).1).2.2 (j % 9) hf9
        rw [add_add, add_plain, ← e] at h1
        exact h1.trans hu
      refine ⟨(List.range len).map S, .inl ?_, fun s hs => ?_⟩
      · rw [hlen]
        refine ⟨by rw [flat_len St.cells 9 St.cells_len, hlen], by omega, .inr ⟨b, off, m, rfl, hl, hm, ?_, hcell⟩⟩
        have h2 := hcell 0 (.int .i64 (S 0).k) (by
          have := flat_get St.cells 9 St.cells_len ((List.range len).map S) 0 0 (by omega) (S 0) (by simp [h0])
          have e : (0 : Nat) * 9 + 0 = 0 := rfl
          rw [e] at this
          exact this.trans rfl)
        exact World.block_lt_of_cell? _ _ h2
      · obtain ⟨i, hi, rfl⟩ := List.mem_map.1 hs
        exact (hS i (by have := List.mem_range.1 hi; omega)).2
    · have hl0 : len = 0 := by omega
      subst hl0
      exact ⟨[], .inr ⟨⟨_, _, rfl⟩, rfl, rfl⟩, fun s hs => by cases hs⟩
end Go.Proofs.YtcmdhfccdkjenaaGreatDoor
namespace Go.Proofs.YtcmdhfccdkjenaaGreatDoor
open Go.ChangeShapes Go.WideShapes Go.ChangeAt Go.RowKit Go.Deep

section
variable {H : Type} {enc : TypeId × Value → H} {w : World} {base : Nat} {held : Bool}
/-- A row whose elements are read as some data. -/
theorem open_rowOf {α : Type} [Inhabited α] (cells : α → List Value) (k : Nat) (hk : 0 < k) (hlen : ∀ x, (cells x).length = k) {t e : TypeId} (ht : Tryz.prog.underlying t = some (.slice e)) (hc : Tryz.prog.cellsOf e = k) (p : α → Prop)
    (each : ∀ n cs y, DataW.trod enc Tryz.prog w base (fun _ => true) held n e cs = some y → ∃ x : α, cs = cells x ∧ p x) {fuel : Nat} {c : Value} {y : DataW H × List MemPlace}
    (hf : DataW.trod enc Tryz.prog w base (fun _ => true) held fuel t [c] = some y) : ∃ l : List α, SlA w k c l.length (l.flatMap cells) ∧ ∀ x ∈ l, p x := by
  rcases open_slice ht hf with ⟨hcs, _⟩ | ⟨a, len, cap, m, n, D, Pl, hcs, _, hl, hm, hmm, _, hx⟩
  · simp only [List.cons.injEq, and_true] at hcs
    subst hcs
    exact ⟨[], (Sl.nil _ _).a, fun s hs => by cases hs⟩
  · simp only [List.cons.injEq, and_true] at hcs
    subst hcs
    simp only [if_true] at hmm
    subst hmm
    rw [hc] at hx
    have hex : ∀ i, i < m → ∃ s : α, w.cells? base (a.add (i * k)) k = some (cells s) ∧ p s := by
      intro i hi
      obtain ⟨cs', h1, h2⟩ := hx i hi
      obtain ⟨s, rfl, hs⟩ := each _ _ _ h2
      exact ⟨s, h1, hs⟩
    obtain ⟨S, hS⟩ := choose_lt hex
    obtain ⟨b, off, spot⟩ := a
    by_cases h0 : 0 < len
    · have hk0 : 0 < (cells (S 0)).length := by rw [hlen]; exact hk
      have c0 := (World.cells?_some (hS 0 (by omega)).1).2.2 0 hk
      rw [List.getElem?_eq_getElem hk0] at c0
      have hspot : spot = none := by simpa [Addr.add] using World.cell?_spot c0
      subst hspot
      have hlenl : ((List.range len).map S).length = len := by simp
      have hcell : ∀ j u, (((List.range len).map S).flatMap cells)[j]? = some u → w.cell? ⟨b, off + j, none⟩ = some u := by
        intro j u hu
        have hj : j < len * k := by
          have := (List.getElem?_eq_some_iff.1 hu).1
          rwa [flat_len cells k hlen, hlenl] at this
        have hf9 : j % k < k := Nat.mod_lt _ hk
        have hi : j / k < len := Nat.div_lt_of_lt_mul (by rwa [Nat.mul_comm])
        have e : j = j / k * k + j % k := by rw [Nat.mul_comm]; exact (Nat.div_add_mod j k).symm
        rw [e, flat_get cells k hlen _ (j / k) (j % k) hf9 (S (j / k)) (by simp [hi])] at hu
        have h1 := (World.cells?_some (hS (j / k) (by omega)).1).2.2 (j % k) hf9
        rw [add_add, add_plain, ← e] at h1
        exact h1.trans hu
      refine ⟨(List.range len).map S, .inl ?_, fun s hs => ?_⟩
      · rw [hlenl]
        refine ⟨by rw [flat_len cells k hlen, hlenl], by omega, .inr ⟨b, off, m, rfl, hl, hm, ?_, hcell⟩⟩
        rw [add_add, add_plain] at c0
        exact World.block_lt_of_cell? _ _ c0
      · obtain ⟨i, hi, rfl⟩ := List.mem_map.1 hs
        exact (hS i (by have := List.mem_range.1 hi; omega)).2
    · have hl0 : len = 0 := by omega
      subst hl0
      exact ⟨[], .inr ⟨⟨_, _, rfl⟩, rfl, rfl⟩, fun s hs => by cases hs⟩

theorem maxLen_eq : maxLen = 9223372036854775807 := by decide
theorem le_max {s : St} (h : s.fits) : s.le 9223372036854775807 := by have := h.1; rwa [maxLen_eq] at this
theorem rle_max {r : Rl} (h : r.le maxLen) : r.le 9223372036854775807 := by rwa [maxLen_eq] at h
instance : Inhabited Rl := ⟨noR⟩
theorem strs_flat (l : List ByteArray) : (l.flatMap fun s => [Value.string s]) = strs l := by
  induction l with
  | nil => rfl
  | cons a r ih => rw [List.flatMap_cons, ih]; rfl
theorem open_strsC {fuel : Nat} {c : Value} {y : DataW H × List MemPlace} (hf : DataW.trod enc Tryz.prog w base (fun _ => true) held fuel 38 [c] = some y) :
    ∃ l : List ByteArray, SlA w 1 c l.length (strs l) ∧ ∀ x ∈ l, x.size ≤ 9223372036854775807 := by
  obtain ⟨l, h1, h2⟩ := open_rowOf (fun s : ByteArray => [Value.string s]) 1 (by decide) (fun _ => rfl) Tryz.underlying38 (by kernel_rfl) (fun s => s.size ≤ 9223372036854775807)
    (fun _ cs _ h => by obtain ⟨s, e, _, hs⟩ := DataW.trod_string Tryz.underlying9 h; exact ⟨s, e, by rwa [maxLen_eq] at hs⟩) hf
  exact ⟨l, by rwa [strs_flat] at h1, h2⟩

theorem six_of {cs : List Value} (h : cs.length = 6) : ∃ a b c d e f, cs = [a, b, c, d, e, f] := by
  match cs, h with
  | [a, b, c, d, e, f], _ => exact ⟨a, b, c, d, e, f, rfl⟩
theorem trod_query {fuel : Nat} {cs : List Value} {x : DataW H × List MemPlace} (h : DataW.trod enc Tryz.prog w base (fun _ => true) held fuel 45 cs = some x) : ∃ q : Qv, cs = q.cells ∧ q.ok w := by
  obtain ⟨xs, n, _, rfl, hl, hlen, hf⟩ := DataW.trod_struct Tryz.underlying45 h
  have hc : Tryz.prog.cellsOf 45 = 6 := by kernel_rfl
  have hr : Tryz.prog.cellsOf 28 = 2 := by kernel_rfl
  have hi : Tryz.prog.cellsOf 3 = 1 := by kernel_rfl
  have hs : Tryz.prog.cellsOf 38 = 1 := by kernel_rfl
  rw [hc] at hl
  obtain ⟨c0, c1, c2, c3, c4, c5, rfl⟩ := six_of hl
  have f0 : DataW.trod enc Tryz.prog w base (fun _ => true) held n 3 [c0] = xs[0]? := by simpa [hi] using hf 0 _ rfl
  have f1 : DataW.trod enc Tryz.prog w base (fun _ => true) held n 28 [c1, c2] = xs[1]? := by simpa [hr] using hf 1 _ rfl
  have f2 : DataW.trod enc Tryz.prog w base (fun _ => true) held n 28 [c3, c4] = xs[2]? := by simpa [hr] using hf 2 _ rfl
  have f3 : DataW.trod enc Tryz.prog w base (fun _ => true) held n 38 [c5] = xs[3]? := by simpa [hs] using hf 3 _ rfl
  match xs, hlen with
  | [y0, y1, y2, y3], _ =>
    simp only [List.getElem?_cons_zero, List.getElem?_cons_succ] at f0 f1 f2 f3
    obtain ⟨k, e0, _, _⟩ := DataW.trod_int Tryz.underlying3 f0
    obtain ⟨r1, e1, _, l1⟩ := trod_role f1
    obtain ⟨r2, e2, _, l2⟩ := trod_role f2
    obtain ⟨ss, s3, l3⟩ := open_strsC f3
    simp only [Rl.cells, List.cons.injEq, and_true] at e0 e1 e2
    obtain ⟨rfl, rfl⟩ := e1
    obtain ⟨rfl, rfl⟩ := e2
    subst e0
    exact ⟨⟨k, r1, r2, c5⟩, rfl, rle_max l1, rle_max l2, ss, s3, l3⟩
end
end Go.Proofs.YtcmdhfccdkjenaaGreatDoor
namespace Go.Proofs.YtcmdhfccdkjenaaGreatDoor
open Go.ChangeShapes Go.WideShapes Go.ChangeAt Go.RowKit

def bruijnL : List (String × DataW Unit) := [("math/bits.deBruijn64tab", Rows.laid_math_bits_deBruijn64tab)]
theorem bruijn_tab : (Rows.laid_math_bits_deBruijn64tab : DataW Unit) = Lib.tabData .u8 (Lib.deBruijn64tab.map fun (n : Nat) => (n : Int)) := by rfl
noncomputable def laidWorld (os : Os) : World := World.laidAll Tryz.prog os bruijnL
theorem laid_met (os : Os) (args : Array Value) : laidMet Tryz.prog bruijnL ((laidWorld os).forCall (fun _ _ => 0) ⟨#[], args, []⟩).memory := laidMet_laidAll args (by kernel_rfl) (by kernel_rfl)
theorem tb_of_laid {W : World} (h : laidMet Tryz.prog bruijnL W) : TB W := by
  unfold bruijnL at h
  rw [bruijn_tab] at h
  have ht := Lib.tabIs_of_head (t := 231) (e := 5) (n := 64) (g := 0) (by kernel_rfl) (by kernel_rfl) Tryz.underlying231 Tryz.underlying5 (by kernel_rfl) (by kernel_rfl) h
  intro j hj
  have := ht.cell (g := 0) (by kernel_rfl) j (by rw [List.length_map]; exact hj)
  rw [this, List.getD_eq_getElem?_getD, List.getElem?_map, List.getD_eq_getElem?_getD, List.getElem?_eq_getElem hj]
  rfl
theorem ownK : ownKnob Tryz.prog.godebug = none := by kernel_rfl
section
variable {H : Type} {enc : TypeId × Value → H} {w : World} {base b0 : Nat} {held : Bool} {r : Reach} {v : Value} {d : DataW H} {ps : List MemPlace}
set_option maxRecDepth 100000 in
theorem open_query (hval : Value.okWide Tryz.prog w r b0 45 v) (hd : DataW.Trod enc Tryz.prog w base (fun _ => true) held 45 v d ps) : ∃ q : Qv, v = qv q ∧ q.ok w := by
  obtain ⟨cs, rfl, _⟩ := okWide_struct Tryz.underlying45 hval
  obtain ⟨fuel, hf⟩ := hd
  obtain ⟨q, h, hq⟩ := trod_query hf
  refine ⟨q, ?_, hq⟩
  obtain ⟨l⟩ := cs
  simp only [Value.cells] at h
  rw [show l = q.cells from by simpa using h]; rfl
end
end Go.Proofs.YtcmdhfccdkjenaaGreatDoor
