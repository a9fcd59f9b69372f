/- simple.Decide (printed by gen_simdecide.py). simple.Decide, where the policy or the query may not be (printed by gen_simdecidee.py). crupperref13.Satisfies, In: as walks (printed by gen_ref13.py). Light of texts, told whole. Light of queries and policies, with the lengths of the queries' roles (turned by gen_lights.py). crupperlaw13.Small. Package state's Reaches, and the reference's MayCome and Reaches. The reference's Reaches. The statement HighHolds: the walk of the law (printed by gen_law12h.py). What holds in the least, or the greatest, state is so in every state that is reached; what may not be in none. -/
import Derived.Test.YtcmdhfccdkjenaaGreatDoorPart19
import Derived.Test.YtcmdhfccdkjenaaGreatDoorPart12
import Derived.Test.YtcmdhfccdkjenaaGreatDoorPart16
import Derived.Test.YtcmdhfccdkjenaaGreatDoorPart5
import Derived.Test.YtcmdhfccdkjenaaGreatDoorPart17
namespace Go.Proofs.YtcmdhfccdkjenaaGreatDoor
open Go.RowKit Go.Shelf

set_option maxRecDepth 100000 in
set_option maxHeartbeats 8000000 in
theorem sim_Decide2 (v0 v1 v2 v3 : Value) (l : List St) (g h : List Rl) (qs : List Qv) (q : Qv) (us PS NS : List ByteArray) (w : World) (P : SimIn w v0 v1 v2 v3 l g h qs q us PS NS) (hk : q.k = 2) :
  Calls Tryz.prog 28 #[pv v0 v1 v2 v3, qv q] w fun e w' => DecP (maxS l g PS NS) q us e w' ∧ Below w.heap.size w w' := by
 have HP := Lib.hid P
 obtain ⟨a0, c0, rfl⟩ := P.at_.rs.form
 obtain ⟨a1, c1, rfl⟩ := P.at_.rg.form
 obtain ⟨a2, c2, rfl⟩ := P.at_.rh.form
 obtain ⟨a3, c3, rfl⟩ := P.at_.rq.form
 obtain ⟨xk, ⟨x1, x2⟩, ⟨x3, x4⟩, wv⟩ := q
 dsimp only at hk
 obtain ⟨wo, wc, e1⟩ := P.hu.form
 dsimp only at e1
 subst hk e1
 clear P
 have HT := Lib.hid (show TriAt w #[.slice a0 l.length c0, .slice a1 g.length c1, .slice a2 h.length c2, .slice a3 qs.length c3] #[.int .i64 2, .string x1, .string x2, .string x3, .string x4, .slice wo us.length wc] #[.int .i64 0, .slice none 0 0, .int .i64 0, .int .i64 0] (((w.alloc (.cells #[.slice a0 l.length c0, .slice a1 g.length c1, .slice a2 h.length c2, .slice a3 qs.length c3] 26)).alloc (.cells #[.int .i64 2, .string x1, .string x2, .string x3, .string x4, .slice wo us.length wc] 45)).alloc (.cells #[.int .i64 0, .slice none 0 0, .int .i64 0, .int .i64 0] 48))
  from TriAt.new w _ _ _ _ _ _)
 go_enter Tryz.func28, Tryz.ntmps28
 go_upto_region 1 with fail
 obtain ⟨wk, hwk⟩ : ∃ W, W = (((w.alloc (.cells #[.slice a0 l.length c0, .slice a1 g.length c1, .slice a2 h.length c2, .slice a3 qs.length c3] 26)).alloc (.cells #[.int .i64 2, .string x1, .string x2, .string x3, .string x4, .slice wo us.length wc] 45)).alloc (.cells #[.int .i64 0, .slice none 0 0, .int .i64 0, .int .i64 0] 48)) := ⟨_, rfl⟩
 rw [← hwk] at HT ⊢
 clear hwk
 obtain ⟨ca, fa, za⟩ := HT.out.a
 obtain ⟨cb, fb, zb⟩ := HT.out.b
 go_wp2_with fail
 refine (sim_Only (.slice a0 l.length c0) (.slice a1 g.length c1) (.slice a2 h.length c2) (.slice a3 qs.length c3) l g h qs ⟨2, ⟨x1, x2⟩, ⟨x3, x4⟩, .slice wo us.length wc⟩ wk (HP.out.at_.below HT.out.low)).mono ?_
 rintro e w1 ⟨vq, rfl, hvq, hb1⟩
 obtain ⟨qa, qc, rfl⟩ := hvq.form
 have HT := Lib.hid (HT.out.later hb1)
 have HQ := Lib.hid hvq
 clear hvq hb1 ca fa za cb fb zb
 obtain ⟨ca, fa, za⟩ := HT.out.a
 go_upto_region 2 with fail
 obtain ⟨w2, hw2⟩ : ∃ W, W = puts w1 w.heap.size 0 [.slice a0 l.length c0, .slice a1 g.length c1, .slice a2 h.length c2, .slice qa 1 qc] := ⟨_, rfl⟩
 have hch : ((((w1.setCell ⟨w.heap.size, 0, none⟩ (.slice a0 l.length c0)).setCell ⟨w.heap.size, 1, none⟩ (.slice a1 g.length c1)).setCell ⟨w.heap.size, 2, none⟩ (.slice a2 h.length c2)).setCell ⟨w.heap.size, 3, none⟩ (.slice qa 1 qc)) = w2 := hw2.symm
 rw [hch]
 have HQ := Lib.hid (HQ.out.putsBlk [.slice a0 l.length c0, .slice a1 g.length c1, .slice a2 h.length c2, .slice qa 1 qc] 0 w1 _ HT.out.a (by simp) (by simp))
 have HT := Lib.hid (HT.out.putsA (.slice a0 l.length c0) (.slice a1 g.length c1) (.slice a2 h.length c2) (.slice qa 1 qc))
 rw [← hw2] at HQ HT
 clear hch hw2 ca fa za
 obtain ⟨ca, fa, za⟩ := HT.out.a
 obtain ⟨cb, fb, zb⟩ := HT.out.b
 go_wp2_with fail
 refine (sim_Right HP.out HT.out.low HQ.out).mono ?_
 rintro e w3 ⟨rfl, hb3⟩
 have HQ := Lib.hid (HQ.out.below hb3)
 have HT := Lib.hid (HT.out.later hb3)
 clear hb3 ca fa za cb fb zb
 obtain ⟨cb, fb, zb⟩ := HT.out.b
 go_wp2_with fail
 refine (sim_IsT HP.out HT.out.low).mono ?_
 rintro e w4 ⟨rfl, hb4⟩
 have HQ := Lib.hid (HQ.out.below hb4)
 have HT := Lib.hid (HT.out.later hb4)
 clear hb4 cb fb zb
 obtain ⟨ca, fa, za⟩ := HT.out.a
 obtain ⟨cb, fb, zb⟩ := HT.out.b
 go_wp2_with fail
 refine (sim_HighEval HP.out HT.out.low HQ.out).mono ?_
 rintro e w5 ⟨t, M, fs, st, rfl, ht, hb5⟩
 have hsm : SameM (putX PS) NS (maxS l g PS NS) := (HP.out.polx HT.out.low HQ.out).highM HP.out.h6 HP.out.h4
 have HQ := Lib.hid (HQ.out.below hb5)
 have HT := Lib.hid (HT.out.later hb5)
 have HM := Lib.hid ht
 have HS := Lib.hid hsm
 clear hb5 ca fa za cb fb zb ht hsm
 obtain ⟨ps, hps⟩ := least_ex (maxS l g PS NS)
 have SAT := Lib.hid (sim_Sat HP.out HT.out.low HM.out HS.out hps)
 have HL := Lib.hid hps
 obtain ⟨ok, hok⟩ : ∃ b, b = satQ (membersP ps) ⟨2, ⟨x1, x2⟩, ⟨x3, x4⟩, .slice wo us.length wc⟩ us := ⟨_, rfl⟩
 rw [← hok] at SAT
 have HOK := Lib.hid hok
 clear hps hok
 obtain ⟨cb, fb, zb⟩ := HT.out.b
 go_wp2_with fail
 refine SAT.out.mono ?_
 rintro e w6 ⟨rfl, hb6⟩
 have HQ := Lib.hid (HQ.out.below hb6)
 have HT := Lib.hid (HT.out.later hb6)
 have HM := Lib.hid (HM.out.below hb6)
 clear hb6 cb fb zb SAT HS
 obtain ⟨F5, W0, g0, hm⟩ := HM.out.mod
 have ST := Lib.hid (model_Steps hm)
 clear hm
 go_wp2_with fail
 refine ST.out.mono ?_
 rintro e w7 ⟨rfl, rfl⟩
 clear ST
 obtain ⟨cc, fc, zc⟩ := HT.out.c
 go_upto_region 11 with fail
 have HQ := Lib.hid (HQ.out.setBlk (o := 2) (x := .int .i64 st) HT.out.c (by simp))
 have HT := Lib.hid (show TriAt w _ _ #[.int .i64 0, .slice none 0 0, .int .i64 st, .int .i64 0] _ from HT.out.setC (o := 2) (v := .int .i64 st) (by simp))
 clear cc fc zc
 obtain ⟨w8, hw8⟩ : ∃ W, W = w7.setCell ⟨w.heap.size + 1 + 1, 2, none⟩ (.int .i64 st) := ⟨_, rfl⟩
 rw [← hw8] at HQ HT ⊢
 clear hw8 HM
 obtain ⟨cb, fb, zb⟩ := HT.out.b
 go_wp2_with fail
 refine (sim_Univ (k := 2) (b := false) rfl w8).mono ?_
 rintro e w9 ⟨rfl, rfl⟩
 cases ok with
 | false =>
  go_wp2_with fail
  refine (sim_Univ (k := 2) (b := false) rfl w9).mono ?_
  rintro e w10 ⟨rfl, rfl⟩
  obtain ⟨cc, fc, zc⟩ := HT.out.c
  go_upto_region 17 with fail
  have HT := Lib.hid (show TriAt w _ _ #[.int .i64 4, .slice none 0 0, .int .i64 st, .int .i64 0] _ from HT.out.setC (o := 0) (v := .int .i64 4) (by simp))
  clear cc fc zc
  obtain ⟨wx, hwx⟩ : ∃ W, W = w10.setCell ⟨w.heap.size + 1 + 1, 0, none⟩ (.int .i64 4) := ⟨_, rfl⟩
  rw [← hwx] at HT ⊢
  clear hwx
  obtain ⟨cc, fc, zc⟩ := HT.out.c
  go_wp2
  obtain ⟨wy, hwy⟩ : ∃ W, W = puts wx (w.heap.size + 1 + 1) 0 [.int .i64 4, .slice none 0 0, .int .i64 st, .int .i64 0] := ⟨_, rfl⟩
  have hch : ((((wx.setCell ⟨w.heap.size + 1 + 1, 0, none⟩ (.int .i64 4)).setCell ⟨w.heap.size + 1 + 1, 1, none⟩ (.slice none 0 0)).setCell ⟨w.heap.size + 1 + 1, 2, none⟩ (.int .i64 st)).setCell ⟨w.heap.size + 1 + 1, 3, none⟩ (.int .i64 0)) = wy := hwy.symm
  rw [hch]
  have HT := Lib.hid (HT.out.putsC (.int .i64 4) (.slice none 0 0) (.int .i64 st) (.int .i64 0))
  rw [← hwy] at HT
  clear hch hwy cc fc zc
  obtain ⟨cc, fc, zc⟩ := HT.out.c
  refine bodyPost_ret (v := .tuple #[.agg #[.int .i64 4, .slice none 0 0, .int .i64 st, .int .i64 0], .int .i64 0]) (by simp [results, Tryz.results28, go_sem, cc]) rfl ⟨⟨none, 0, st, [], ps, ?_, HL.out, (Sl.nil _ _).a, ?_⟩, HT.out.low⟩
  ·show _ = Ending.returned (.tuple #[.agg #[.int .i64 (kindV (univB 2) (satQ (membersP ps) ⟨2, ⟨x1, x2⟩, ⟨x3, x4⟩, .slice wo us.length wc⟩ us)), .slice none 0 0, .int .i64 st, .int .i64 0], .int .i64 0])
   rw [← HOK.out]
   rfl
  ·show _ = if univB 2 = satQ (membersP ps) ⟨2, ⟨x1, x2⟩, ⟨x3, x4⟩, .slice wo us.length wc⟩ us then [] else _
   rw [← HOK.out]
   rfl
 | true =>
  go_wp2_with fail
  refine (sim_Univ (k := 2) (b := false) rfl w9).mono ?_
  rintro e w10 ⟨rfl, rfl⟩
  obtain ⟨ca, fa, za⟩ := HT.out.a
  go_wp2_with fail
  refine (sim_HighState HP.out HT.out.low HQ.out).mono ?_
  rintro e w11 ⟨vs, rfl, hvs, hb11⟩
  obtain ⟨sa, sc, rfl⟩ := hvs.form
  have HT := Lib.hid (HT.out.later hb11)
  have HV := Lib.hid hvs
  clear hvs hb11 ca fa za cb fb zb
  obtain ⟨cc, fc, zc⟩ := HT.out.c
  go_upto_region 17 with fail
  have HV := Lib.hid ((HV.out.setBlk (o := 0) (x := .int .i64 3) HT.out.c (by simp)).setBlk (o := 1) (x := .slice sa (maxS l g PS NS).length sc) (HT.out.setC (o := 0) (v := .int .i64 3) (by simp)).c (by simp)).a
  have HT := Lib.hid (show TriAt w _ _ #[.int .i64 3, .slice sa (maxS l g PS NS).length sc, .int .i64 st, .int .i64 0] _ from (HT.out.setC (o := 0) (v := .int .i64 3) (by simp)).setC (o := 1) (v := .slice sa (maxS l g PS NS).length sc) (by simp))
  clear cc fc zc
  obtain ⟨wx, hwx⟩ : ∃ W, W = (w11.setCell ⟨w.heap.size + 1 + 1, 0, none⟩ (.int .i64 3)).setCell ⟨w.heap.size + 1 + 1, 1, none⟩ (.slice sa (maxS l g PS NS).length sc) := ⟨_, rfl⟩
  rw [← hwx] at HV HT ⊢
  clear hwx
  obtain ⟨cc, fc, zc⟩ := HT.out.c
  go_wp2
  obtain ⟨wy, hwy⟩ : ∃ W, W = puts wx (w.heap.size + 1 + 1) 0 [.int .i64 3, .slice sa (maxS l g PS NS).length sc, .int .i64 st, .int .i64 0] := ⟨_, rfl⟩
  have hch : ((((wx.setCell ⟨w.heap.size + 1 + 1, 0, none⟩ (.int .i64 3)).setCell ⟨w.heap.size + 1 + 1, 1, none⟩ (.slice sa (maxS l g PS NS).length sc)).setCell ⟨w.heap.size + 1 + 1, 2, none⟩ (.int .i64 st)).setCell ⟨w.heap.size + 1 + 1, 3, none⟩ (.int .i64 0)) = wy := hwy.symm
  rw [hch]
  have HV := Lib.hid (HV.out.putsBlk [.int .i64 3, .slice sa (maxS l g PS NS).length sc, .int .i64 st, .int .i64 0] 0 wx _ HT.out.c (by simp) (by simp))
  have HT := Lib.hid (HT.out.putsC (.int .i64 3) (.slice sa (maxS l g PS NS).length sc) (.int .i64 st) (.int .i64 0))
  rw [← hwy] at HV HT
  clear hch hwy cc fc zc
  obtain ⟨cc, fc, zc⟩ := HT.out.c
  refine bodyPost_ret (v := .tuple #[.agg #[.int .i64 3, .slice sa (maxS l g PS NS).length sc, .int .i64 st, .int .i64 0], .int .i64 0]) (by simp [results, Tryz.results28, go_sem, cc]) rfl ⟨⟨sa, sc, st, maxS l g PS NS, ps, ?_, HL.out, HV.out, ?_⟩, HT.out.low⟩
  ·show _ = Ending.returned (.tuple #[.agg #[.int .i64 (kindV (univB 2) (satQ (membersP ps) ⟨2, ⟨x1, x2⟩, ⟨x3, x4⟩, .slice wo us.length wc⟩ us)), .slice sa (maxS l g PS NS).length sc, .int .i64 st, .int .i64 0], .int .i64 0])
   rw [← HOK.out]
   rfl
  ·show _ = if univB 2 = satQ (membersP ps) ⟨2, ⟨x1, x2⟩, ⟨x3, x4⟩, .slice wo us.length wc⟩ us then [] else _
   rw [← HOK.out]
   rfl
set_option maxRecDepth 100000 in
set_option maxHeartbeats 8000000 in
theorem sim_Decide3 (v0 v1 v2 v3 : Value) (l : List St) (g h : List Rl) (qs : List Qv) (q : Qv) (us PS NS : List ByteArray) (w : World) (P : SimIn w v0 v1 v2 v3 l g h qs q us PS NS) (hk : q.k = 3) :
  Calls Tryz.prog 28 #[pv v0 v1 v2 v3, qv q] w fun e w' => DecP (maxS l g PS NS) q us e w' ∧ Below w.heap.size w w' := by
 have HP := Lib.hid P
 obtain ⟨a0, c0, rfl⟩ := P.at_.rs.form
 obtain ⟨a1, c1, rfl⟩ := P.at_.rg.form
 obtain ⟨a2, c2, rfl⟩ := P.at_.rh.form
 obtain ⟨a3, c3, rfl⟩ := P.at_.rq.form
 obtain ⟨xk, ⟨x1, x2⟩, ⟨x3, x4⟩, wv⟩ := q
 dsimp only at hk
 obtain ⟨wo, wc, e1⟩ := P.hu.form
 dsimp only at e1
 subst hk e1
 clear P
 have HT := Lib.hid (show TriAt w #[.slice a0 l.length c0, .slice a1 g.length c1, .slice a2 h.length c2, .slice a3 qs.length c3] #[.int .i64 3, .string x1, .string x2, .string x3, .string x4, .slice wo us.length wc] #[.int .i64 0, .slice none 0 0, .int .i64 0, .int .i64 0] (((w.alloc (.cells #[.slice a0 l.length c0, .slice a1 g.length c1, .slice a2 h.length c2, .slice a3 qs.length c3] 26)).alloc (.cells #[.int .i64 3, .string x1, .string x2, .string x3, .string x4, .slice wo us.length wc] 45)).alloc (.cells #[.int .i64 0, .slice none 0 0, .int .i64 0, .int .i64 0] 48))
  from TriAt.new w _ _ _ _ _ _)
 go_enter Tryz.func28, Tryz.ntmps28
 go_upto_region 1 with fail
 obtain ⟨wk, hwk⟩ : ∃ W, W = (((w.alloc (.cells #[.slice a0 l.length c0, .slice a1 g.length c1, .slice a2 h.length c2, .slice a3 qs.length c3] 26)).alloc (.cells #[.int .i64 3, .string x1, .string x2, .string x3, .string x4, .slice wo us.length wc] 45)).alloc (.cells #[.int .i64 0, .slice none 0 0, .int .i64 0, .int .i64 0] 48)) := ⟨_, rfl⟩
 rw [← hwk] at HT ⊢
 clear hwk
 obtain ⟨ca, fa, za⟩ := HT.out.a
 obtain ⟨cb, fb, zb⟩ := HT.out.b
 go_wp2_with fail
 refine (sim_Only (.slice a0 l.length c0) (.slice a1 g.length c1) (.slice a2 h.length c2) (.slice a3 qs.length c3) l g h qs ⟨3, ⟨x1, x2⟩, ⟨x3, x4⟩, .slice wo us.length wc⟩ wk (HP.out.at_.below HT.out.low)).mono ?_
 rintro e w1 ⟨vq, rfl, hvq, hb1⟩
 obtain ⟨qa, qc, rfl⟩ := hvq.form
 have HT := Lib.hid (HT.out.later hb1)
 have HQ := Lib.hid hvq
 clear hvq hb1 ca fa za cb fb zb
 obtain ⟨ca, fa, za⟩ := HT.out.a
 go_upto_region 2 with fail
 obtain ⟨w2, hw2⟩ : ∃ W, W = puts w1 w.heap.size 0 [.slice a0 l.length c0, .slice a1 g.length c1, .slice a2 h.length c2, .slice qa 1 qc] := ⟨_, rfl⟩
 have hch : ((((w1.setCell ⟨w.heap.size, 0, none⟩ (.slice a0 l.length c0)).setCell ⟨w.heap.size, 1, none⟩ (.slice a1 g.length c1)).setCell ⟨w.heap.size, 2, none⟩ (.slice a2 h.length c2)).setCell ⟨w.heap.size, 3, none⟩ (.slice qa 1 qc)) = w2 := hw2.symm
 rw [hch]
 have HQ := Lib.hid (HQ.out.putsBlk [.slice a0 l.length c0, .slice a1 g.length c1, .slice a2 h.length c2, .slice qa 1 qc] 0 w1 _ HT.out.a (by simp) (by simp))
 have HT := Lib.hid (HT.out.putsA (.slice a0 l.length c0) (.slice a1 g.length c1) (.slice a2 h.length c2) (.slice qa 1 qc))
 rw [← hw2] at HQ HT
 clear hch hw2 ca fa za
 obtain ⟨ca, fa, za⟩ := HT.out.a
 obtain ⟨cb, fb, zb⟩ := HT.out.b
 go_wp2_with fail
 refine (sim_Right HP.out HT.out.low HQ.out).mono ?_
 rintro e w3 ⟨rfl, hb3⟩
 have HQ := Lib.hid (HQ.out.below hb3)
 have HT := Lib.hid (HT.out.later hb3)
 clear hb3 ca fa za cb fb zb
 obtain ⟨cb, fb, zb⟩ := HT.out.b
 go_wp2_with fail
 refine (sim_IsT HP.out HT.out.low).mono ?_
 rintro e w4 ⟨rfl, hb4⟩
 have HQ := Lib.hid (HQ.out.below hb4)
 have HT := Lib.hid (HT.out.later hb4)
 clear hb4 cb fb zb
 obtain ⟨ca, fa, za⟩ := HT.out.a
 obtain ⟨cb, fb, zb⟩ := HT.out.b
 go_wp2_with fail
 refine (sim_HighEval HP.out HT.out.low HQ.out).mono ?_
 rintro e w5 ⟨t, M, fs, st, rfl, ht, hb5⟩
 have hsm : SameM (putX PS) NS (maxS l g PS NS) := (HP.out.polx HT.out.low HQ.out).highM HP.out.h6 HP.out.h4
 have HQ := Lib.hid (HQ.out.below hb5)
 have HT := Lib.hid (HT.out.later hb5)
 have HM := Lib.hid ht
 have HS := Lib.hid hsm
 clear hb5 ca fa za cb fb zb ht hsm
 obtain ⟨ps, hps⟩ := least_ex (maxS l g PS NS)
 have SAT := Lib.hid (sim_Sat HP.out HT.out.low HM.out HS.out hps)
 have HL := Lib.hid hps
 obtain ⟨ok, hok⟩ : ∃ b, b = satQ (membersP ps) ⟨3, ⟨x1, x2⟩, ⟨x3, x4⟩, .slice wo us.length wc⟩ us := ⟨_, rfl⟩
 rw [← hok] at SAT
 have HOK := Lib.hid hok
 clear hps hok
 obtain ⟨cb, fb, zb⟩ := HT.out.b
 go_wp2_with fail
 refine SAT.out.mono ?_
 rintro e w6 ⟨rfl, hb6⟩
 have HQ := Lib.hid (HQ.out.below hb6)
 have HT := Lib.hid (HT.out.later hb6)
 have HM := Lib.hid (HM.out.below hb6)
 clear hb6 cb fb zb SAT HS
 obtain ⟨F5, W0, g0, hm⟩ := HM.out.mod
 have ST := Lib.hid (model_Steps hm)
 clear hm
 go_wp2_with fail
 refine ST.out.mono ?_
 rintro e w7 ⟨rfl, rfl⟩
 clear ST
 obtain ⟨cc, fc, zc⟩ := HT.out.c
 go_upto_region 11 with fail
 have HQ := Lib.hid (HQ.out.setBlk (o := 2) (x := .int .i64 st) HT.out.c (by simp))
 have HT := Lib.hid (show TriAt w _ _ #[.int .i64 0, .slice none 0 0, .int .i64 st, .int .i64 0] _ from HT.out.setC (o := 2) (v := .int .i64 st) (by simp))
 clear cc fc zc
 obtain ⟨w8, hw8⟩ : ∃ W, W = w7.setCell ⟨w.heap.size + 1 + 1, 2, none⟩ (.int .i64 st) := ⟨_, rfl⟩
 rw [← hw8] at HQ HT ⊢
 clear hw8 HM
 obtain ⟨cb, fb, zb⟩ := HT.out.b
 go_wp2_with fail
 refine (sim_Univ (k := 3) (b := true) rfl w8).mono ?_
 rintro e w9 ⟨rfl, rfl⟩
 cases ok with
 | false =>
  go_wp2_with fail
  refine (sim_Univ (k := 3) (b := true) rfl w9).mono ?_
  rintro e w10 ⟨rfl, rfl⟩
  obtain ⟨ca, fa, za⟩ := HT.out.a
  go_wp2_with fail
  refine (sim_HighState HP.out HT.out.low HQ.out).mono ?_
  rintro e w11 ⟨vs, rfl, hvs, hb11⟩
  obtain ⟨sa, sc, rfl⟩ := hvs.form
  have HT := Lib.hid (HT.out.later hb11)
  have HV := Lib.hid hvs
  clear hvs hb11 ca fa za cb fb zb
  obtain ⟨cc, fc, zc⟩ := HT.out.c
  go_upto_region 17 with fail
  have HV := Lib.hid ((HV.out.setBlk (o := 0) (x := .int .i64 2) HT.out.c (by simp)).setBlk (o := 1) (x := .slice sa (maxS l g PS NS).length sc) (HT.out.setC (o := 0) (v := .int .i64 2) (by simp)).c (by simp)).a
  have HT := Lib.hid (show TriAt w _ _ #[.int .i64 2, .slice sa (maxS l g PS NS).length sc, .int .i64 st, .int .i64 0] _ from (HT.out.setC (o := 0) (v := .int .i64 2) (by simp)).setC (o := 1) (v := .slice sa (maxS l g PS NS).length sc) (by simp))
  clear cc fc zc
  obtain ⟨wx, hwx⟩ : ∃ W, W = (w11.setCell ⟨w.heap.size + 1 + 1, 0, none⟩ (.int .i64 2)).setCell ⟨w.heap.size + 1 + 1, 1, none⟩ (.slice sa (maxS l g PS NS).length sc) := ⟨_, rfl⟩
  rw [← hwx] at HV HT ⊢
  clear hwx
  obtain ⟨cc, fc, zc⟩ := HT.out.c
  go_wp2
  obtain ⟨wy, hwy⟩ : ∃ W, W = puts wx (w.heap.size + 1 + 1) 0 [.int .i64 2, .slice sa (maxS l g PS NS).length sc, .int .i64 st, .int .i64 0] := ⟨_, rfl⟩
  have hch : ((((wx.setCell ⟨w.heap.size + 1 + 1, 0, none⟩ (.int .i64 2)).setCell ⟨w.heap.size + 1 + 1, 1, none⟩ (.slice sa (maxS l g PS NS).length sc)).setCell ⟨w.heap.size + 1 + 1, 2, none⟩ (.int .i64 st)).setCell ⟨w.heap.size + 1 + 1, 3, none⟩ (.int .i64 0)) = wy := hwy.symm
  rw [hch]
  have HV := Lib.hid (HV.out.putsBlk [.int .i64 2, .slice sa (maxS l g PS NS).length sc, .int .i64 st, .int .i64 0] 0 wx _ HT.out.c (by simp) (by simp))
  have HT := Lib.hid (HT.out.putsC (.int .i64 2) (.slice sa (maxS l g PS NS).length sc) (.int .i64 st) (.int .i64 0))
  rw [← hwy] at HV HT
  clear hch hwy cc fc zc
  obtain ⟨cc, fc, zc⟩ := HT.out.c
  refine bodyPost_ret (v := .tuple #[.agg #[.int .i64 2, .slice sa (maxS l g PS NS).length sc, .int .i64 st, .int .i64 0], .int .i64 0]) (by simp [results, Tryz.results28, go_sem, cc]) rfl ⟨⟨sa, sc, st, maxS l g PS NS, ps, ?_, HL.out, HV.out, ?_⟩, HT.out.low⟩
  ·show _ = Ending.returned (.tuple #[.agg #[.int .i64 (kindV (univB 3) (satQ (membersP ps) ⟨3, ⟨x1, x2⟩, ⟨x3, x4⟩, .slice wo us.length wc⟩ us)), .slice sa (maxS l g PS NS).length sc, .int .i64 st, .int .i64 0], .int .i64 0])
   rw [← HOK.out]
   rfl
  ·show _ = if univB 3 = satQ (membersP ps) ⟨3, ⟨x1, x2⟩, ⟨x3, x4⟩, .slice wo us.length wc⟩ us then [] else _
   rw [← HOK.out]
   rfl
 | true =>
  obtain ⟨cc, fc, zc⟩ := HT.out.c
  go_upto_region 17 with fail
  have HT := Lib.hid (show TriAt w _ _ #[.int .i64 1, .slice none 0 0, .int .i64 st, .int .i64 0] _ from HT.out.setC (o := 0) (v := .int .i64 1) (by simp))
  clear cc fc zc
  obtain ⟨wx, hwx⟩ : ∃ W, W = w9.setCell ⟨w.heap.size + 1 + 1, 0, none⟩ (.int .i64 1) := ⟨_, rfl⟩
  rw [← hwx] at HT ⊢
  clear hwx
  obtain ⟨cc, fc, zc⟩ := HT.out.c
  go_wp2
  obtain ⟨wy, hwy⟩ : ∃ W, W = puts wx (w.heap.size + 1 + 1) 0 [.int .i64 1, .slice none 0 0, .int .i64 st, .int .i64 0] := ⟨_, rfl⟩
  have hch : ((((wx.setCell ⟨w.heap.size + 1 + 1, 0, none⟩ (.int .i64 1)).setCell ⟨w.heap.size + 1 + 1, 1, none⟩ (.slice none 0 0)).setCell ⟨w.heap.size + 1 + 1, 2, none⟩ (.int .i64 st)).setCell ⟨w.heap.size + 1 + 1, 3, none⟩ (.int .i64 0)) = wy := hwy.symm
  rw [hch]
  have HT := Lib.hid (HT.out.putsC (.int .i64 1) (.slice none 0 0) (.int .i64 st) (.int .i64 0))
  rw [← hwy] at HT
  clear hch hwy cc fc zc
  obtain ⟨cc, fc, zc⟩ := HT.out.c
  refine bodyPost_ret (v := .tuple #[.agg #[.int .i64 1, .slice none 0 0, .int .i64 st, .int .i64 0], .int .i64 0]) (by simp [results, Tryz.results28, go_sem, cc]) rfl ⟨⟨none, 0, st, [], ps, ?_, HL.out, (Sl.nil _ _).a, ?_⟩, HT.out.low⟩
  ·show _ = Ending.returned (.tuple #[.agg #[.int .i64 (kindV (univB 3) (satQ (membersP ps) ⟨3, ⟨x1, x2⟩, ⟨x3, x4⟩, .slice wo us.length wc⟩ us)), .slice none 0 0, .int .i64 st, .int .i64 0], .int .i64 0])
   rw [← HOK.out]
   rfl
  ·show _ = if univB 3 = satQ (membersP ps) ⟨3, ⟨x1, x2⟩, ⟨x3, x4⟩, .slice wo us.length wc⟩ us then [] else _
   rw [← HOK.out]
   rfl
set_option maxRecDepth 100000 in
set_option maxHeartbeats 8000000 in
theorem sim_Decide5 (v0 v1 v2 v3 : Value) (l : List St) (g h : List Rl) (qs : List Qv) (q : Qv) (us PS NS : List ByteArray) (w : World) (P : SimIn w v0 v1 v2 v3 l g h qs q us PS NS) (hk : q.k = 5) :
  Calls Tryz.prog 28 #[pv v0 v1 v2 v3, qv q] w fun e w' => DecP (maxS l g PS NS) q us e w' ∧ Below w.heap.size w w' := by
 have HP := Lib.hid P
 obtain ⟨a0, c0, rfl⟩ := P.at_.rs.form
 obtain ⟨a1, c1, rfl⟩ := P.at_.rg.form
 obtain ⟨a2, c2, rfl⟩ := P.at_.rh.form
 obtain ⟨a3, c3, rfl⟩ := P.at_.rq.form
 obtain ⟨xk, ⟨x1, x2⟩, ⟨x3, x4⟩, wv⟩ := q
 dsimp only at hk
 obtain ⟨wo, wc, e1⟩ := P.hu.form
 dsimp only at e1
 subst hk e1
 clear P
 have HT := Lib.hid (show TriAt w #[.slice a0 l.length c0, .slice a1 g.length c1, .slice a2 h.length c2, .slice a3 qs.length c3] #[.int .i64 5, .string x1, .string x2, .string x3, .string x4, .slice wo us.length wc] #[.int .i64 0, .slice none 0 0, .int .i64 0, .int .i64 0] (((w.alloc (.cells #[.slice a0 l.length c0, .slice a1 g.length c1, .slice a2 h.length c2, .slice a3 qs.length c3] 26)).alloc (.cells #[.int .i64 5, .string x1, .string x2, .string x3, .string x4, .slice wo us.length wc] 45)).alloc (.cells #[.int .i64 0, .slice none 0 0, .int .i64 0, .int .i64 0] 48))
  from TriAt.new w _ _ _ _ _ _)
 go_enter Tryz.func28, Tryz.ntmps28
 go_upto_region 1 with fail
 obtain ⟨wk, hwk⟩ : ∃ W, W = (((w.alloc (.cells #[.slice a0 l.length c0, .slice a1 g.length c1, .slice a2 h.length c2, .slice a3 qs.length c3] 26)).alloc (.cells #[.int .i64 5, .string x1, .string x2, .string x3, .string x4, .slice wo us.length wc] 45)).alloc (.cells #[.int .i64 0, .slice none 0 0, .int .i64 0, .int .i64 0] 48)) := ⟨_, rfl⟩
 rw [← hwk] at HT ⊢
 clear hwk
 obtain ⟨ca, fa, za⟩ := HT.out.a
 obtain ⟨cb, fb, zb⟩ := HT.out.b
 go_wp2_with fail
 refine (sim_Only (.slice a0 l.length c0) (.slice a1 g.length c1) (.slice a2 h.length c2) (.slice a3 qs.length c3) l g h qs ⟨5, ⟨x1, x2⟩, ⟨x3, x4⟩, .slice wo us.length wc⟩ wk (HP.out.at_.below HT.out.low)).mono ?_
 rintro e w1 ⟨vq, rfl, hvq, hb1⟩
 obtain ⟨qa, qc, rfl⟩ := hvq.form
 have HT := Lib.hid (HT.out.later hb1)
 have HQ := Lib.hid hvq
 clear hvq hb1 ca fa za cb fb zb
 obtain ⟨ca, fa, za⟩ := HT.out.a
 go_upto_region 2 with fail
 obtain ⟨w2, hw2⟩ : ∃ W, W = puts w1 w.heap.size 0 [.slice a0 l.length c0, .slice a1 g.length c1, .slice a2 h.length c2, .slice qa 1 qc] := ⟨_, rfl⟩
 have hch : ((((w1.setCell ⟨w.heap.size, 0, none⟩ (.slice a0 l.length c0)).setCell ⟨w.heap.size, 1, none⟩ (.slice a1 g.length c1)).setCell ⟨w.heap.size, 2, none⟩ (.slice a2 h.length c2)).setCell ⟨w.heap.size, 3, none⟩ (.slice qa 1 qc)) = w2 := hw2.symm
 rw [hch]
 have HQ := Lib.hid (HQ.out.putsBlk [.slice a0 l.length c0, .slice a1 g.length c1, .slice a2 h.length c2, .slice qa 1 qc] 0 w1 _ HT.out.a (by simp) (by simp))
 have HT := Lib.hid (HT.out.putsA (.slice a0 l.length c0) (.slice a1 g.length c1) (.slice a2 h.length c2) (.slice qa 1 qc))
 rw [← hw2] at HQ HT
 clear hch hw2 ca fa za
 obtain ⟨ca, fa, za⟩ := HT.out.a
 obtain ⟨cb, fb, zb⟩ := HT.out.b
 go_wp2_with fail
 refine (sim_Right HP.out HT.out.low HQ.out).mono ?_
 rintro e w3 ⟨rfl, hb3⟩
 have HQ := Lib.hid (HQ.out.below hb3)
 have HT := Lib.hid (HT.out.later hb3)
 clear hb3 ca fa za cb fb zb
 obtain ⟨cb, fb, zb⟩ := HT.out.b
 go_wp2_with fail
 refine (sim_IsT HP.out HT.out.low).mono ?_
 rintro e w4 ⟨rfl, hb4⟩
 have HQ := Lib.hid (HQ.out.below hb4)
 have HT := Lib.hid (HT.out.later hb4)
 clear hb4 cb fb zb
 obtain ⟨ca, fa, za⟩ := HT.out.a
 obtain ⟨cb, fb, zb⟩ := HT.out.b
 go_wp2_with fail
 refine (sim_HighEval HP.out HT.out.low HQ.out).mono ?_
 rintro e w5 ⟨t, M, fs, st, rfl, ht, hb5⟩
 have hsm : SameM (putX PS) NS (maxS l g PS NS) := (HP.out.polx HT.out.low HQ.out).highM HP.out.h6 HP.out.h4
 have HQ := Lib.hid (HQ.out.below hb5)
 have HT := Lib.hid (HT.out.later hb5)
 have HM := Lib.hid ht
 have HS := Lib.hid hsm
 clear hb5 ca fa za cb fb zb ht hsm
 obtain ⟨ps, hps⟩ := least_ex (maxS l g PS NS)
 have SAT := Lib.hid (sim_Sat HP.out HT.out.low HM.out HS.out hps)
 have HL := Lib.hid hps
 obtain ⟨ok, hok⟩ : ∃ b, b = satQ (membersP ps) ⟨5, ⟨x1, x2⟩, ⟨x3, x4⟩, .slice wo us.length wc⟩ us := ⟨_, rfl⟩
 rw [← hok] at SAT
 have HOK := Lib.hid hok
 clear hps hok
 obtain ⟨cb, fb, zb⟩ := HT.out.b
 go_wp2_with fail
 refine SAT.out.mono ?_
 rintro e w6 ⟨rfl, hb6⟩
 have HQ := Lib.hid (HQ.out.below hb6)
 have HT := Lib.hid (HT.out.later hb6)
 have HM := Lib.hid (HM.out.below hb6)
 clear hb6 cb fb zb SAT HS
 obtain ⟨F5, W0, g0, hm⟩ := HM.out.mod
 have ST := Lib.hid (model_Steps hm)
 clear hm
 go_wp2_with fail
 refine ST.out.mono ?_
 rintro e w7 ⟨rfl, rfl⟩
 clear ST
 obtain ⟨cc, fc, zc⟩ := HT.out.c
 go_upto_region 11 with fail
 have HQ := Lib.hid (HQ.out.setBlk (o := 2) (x := .int .i64 st) HT.out.c (by simp))
 have HT := Lib.hid (show TriAt w _ _ #[.int .i64 0, .slice none 0 0, .int .i64 st, .int .i64 0] _ from HT.out.setC (o := 2) (v := .int .i64 st) (by simp))
 clear cc fc zc
 obtain ⟨w8, hw8⟩ : ∃ W, W = w7.setCell ⟨w.heap.size + 1 + 1, 2, none⟩ (.int .i64 st) := ⟨_, rfl⟩
 rw [← hw8] at HQ HT ⊢
 clear hw8 HM
 obtain ⟨cb, fb, zb⟩ := HT.out.b
 go_wp2_with fail
 refine (sim_Univ (k := 5) (b := true) rfl w8).mono ?_
 rintro e w9 ⟨rfl, rfl⟩
 cases ok with
 | false =>
  go_wp2_with fail
  refine (sim_Univ (k := 5) (b := true) rfl w9).mono ?_
  rintro e w10 ⟨rfl, rfl⟩
  obtain ⟨ca, fa, za⟩ := HT.out.a
  go_wp2_with fail
  refine (sim_HighState HP.out HT.out.low HQ.out).mono ?_
  rintro e w11 ⟨vs, rfl, hvs, hb11⟩
  obtain ⟨sa, sc, rfl⟩ := hvs.form
  have HT := Lib.hid (HT.out.later hb11)
  have HV := Lib.hid hvs
  clear hvs hb11 ca fa za cb fb zb
  obtain ⟨cc, fc, zc⟩ := HT.out.c
  go_upto_region 17 with fail
  have HV := Lib.hid ((HV.out.setBlk (o := 0) (x := .int .i64 2) HT.out.c (by simp)).setBlk (o := 1) (x := .slice sa (maxS l g PS NS).length sc) (HT.out.setC (o := 0) (v := .int .i64 2) (by simp)).c (by simp)).a
  have HT := Lib.hid (show TriAt w _ _ #[.int .i64 2, .slice sa (maxS l g PS NS).length sc, .int .i64 st, .int .i64 0] _ from (HT.out.setC (o := 0) (v := .int .i64 2) (by simp)).setC (o := 1) (v := .slice sa (maxS l g PS NS).length sc) (by simp))
  clear cc fc zc
  obtain ⟨wx, hwx⟩ : ∃ W, W = (w11.setCell ⟨w.heap.size + 1 + 1, 0, none⟩ (.int .i64 2)).setCell ⟨w.heap.size + 1 + 1, 1, none⟩ (.slice sa (maxS l g PS NS).length sc) := ⟨_, rfl⟩
  rw [← hwx] at HV HT ⊢
  clear hwx
  obtain ⟨cc, fc, zc⟩ := HT.out.c
  go_wp2
  obtain ⟨wy, hwy⟩ : ∃ W, W = puts wx (w.heap.size + 1 + 1) 0 [.int .i64 2, .slice sa (maxS l g PS NS).length sc, .int .i64 st, .int .i64 0] := ⟨_, rfl⟩
  have hch : ((((wx.setCell ⟨w.heap.size + 1 + 1, 0, none⟩ (.int .i64 2)).setCell ⟨w.heap.size + 1 + 1, 1, none⟩ (.slice sa (maxS l g PS NS).length sc)).setCell ⟨w.heap.size + 1 + 1, 2, none⟩ (.int .i64 st)).setCell ⟨w.heap.size + 1 + 1, 3, none⟩ (.int .i64 0)) = wy := hwy.symm
  rw [hch]
  have HV := Lib.hid (HV.out.putsBlk [.int .i64 2, .slice sa (maxS l g PS NS).length sc, .int .i64 st, .int .i64 0] 0 wx _ HT.out.c (by simp) (by simp))
  have HT := Lib.hid (HT.out.putsC (.int .i64 2) (.slice sa (maxS l g PS NS).length sc) (.int .i64 st) (.int .i64 0))
  rw [← hwy] at HV HT
  clear hch hwy cc fc zc
  obtain ⟨cc, fc, zc⟩ := HT.out.c
  refine bodyPost_ret (v := .tuple #[.agg #[.int .i64 2, .slice sa (maxS l g PS NS).length sc, .int .i64 st, .int .i64 0], .int .i64 0]) (by simp [results, Tryz.results28, go_sem, cc]) rfl ⟨⟨sa, sc, st, maxS l g PS NS, ps, ?_, HL.out, HV.out, ?_⟩, HT.out.low⟩
  ·show _ = Ending.returned (.tuple #[.agg #[.int .i64 (kindV (univB 5) (satQ (membersP ps) ⟨5, ⟨x1, x2⟩, ⟨x3, x4⟩, .slice wo us.length wc⟩ us)), .slice sa (maxS l g PS NS).length sc, .int .i64 st, .int .i64 0], .int .i64 0])
   rw [← HOK.out]
   rfl
  ·show _ = if univB 5 = satQ (membersP ps) ⟨5, ⟨x1, x2⟩, ⟨x3, x4⟩, .slice wo us.length wc⟩ us then [] else _
   rw [← HOK.out]
   rfl
 | true =>
  obtain ⟨cc, fc, zc⟩ := HT.out.c
  go_upto_region 17 with fail
  have HT := Lib.hid (show TriAt w _ _ #[.int .i64 1, .slice none 0 0, .int .i64 st, .int .i64 0] _ from HT.out.setC (o := 0) (v := .int .i64 1) (by simp))
  clear cc fc zc
  obtain ⟨wx, hwx⟩ : ∃ W, W = w9.setCell ⟨w.heap.size + 1 + 1, 0, none⟩ (.int .i64 1) := ⟨_, rfl⟩
  rw [← hwx] at HT ⊢
  clear hwx
  obtain ⟨cc, fc, zc⟩ := HT.out.c
  go_wp2
  obtain ⟨wy, hwy⟩ : ∃ W, W = puts wx (w.heap.size + 1 + 1) 0 [.int .i64 1, .slice none 0 0, .int .i64 st, .int .i64 0] := ⟨_, rfl⟩
  have hch : ((((wx.setCell ⟨w.heap.size + 1 + 1, 0, none⟩ (.int .i64 1)).setCell ⟨w.heap.size + 1 + 1, 1, none⟩ (.slice none 0 0)).setCell ⟨w.heap.size + 1 + 1, 2, none⟩ (.int .i64 st)).setCell ⟨w.heap.size + 1 + 1, 3, none⟩ (.int .i64 0)) = wy := hwy.symm
  rw [hch]
  have HT := Lib.hid (HT.out.putsC (.int .i64 1) (.slice none 0 0) (.int .i64 st) (.int .i64 0))
  rw [← hwy] at HT
  clear hch hwy cc fc zc
  obtain ⟨cc, fc, zc⟩ := HT.out.c
  refine bodyPost_ret (v := .tuple #[.agg #[.int .i64 1, .slice none 0 0, .int .i64 st, .int .i64 0], .int .i64 0]) (by simp [results, Tryz.results28, go_sem, cc]) rfl ⟨⟨none, 0, st, [], ps, ?_, HL.out, (Sl.nil _ _).a, ?_⟩, HT.out.low⟩
  ·show _ = Ending.returned (.tuple #[.agg #[.int .i64 (kindV (univB 5) (satQ (membersP ps) ⟨5, ⟨x1, x2⟩, ⟨x3, x4⟩, .slice wo us.length wc⟩ us)), .slice none 0 0, .int .i64 st, .int .i64 0], .int .i64 0])
   rw [← HOK.out]
   rfl
  ·show _ = if univB 5 = satQ (membersP ps) ⟨5, ⟨x1, x2⟩, ⟨x3, x4⟩, .slice wo us.length wc⟩ us then [] else _
   rw [← HOK.out]
   rfl
def decS (k : Int) (l : List St) (g h : List Rl) (PS NS : List ByteArray) : List St := if k = 1 ∨ k = 4 then minS l h else maxS l g PS NS
theorem sim_Decide {v0 v1 v2 v3 : Value} {l : List St} {g h : List Rl} {qs : List Qv} {q : Qv} {us PS NS : List ByteArray} {w : World} (P : SimIn w v0 v1 v2 v3 l g h qs q us PS NS) :
  Calls Tryz.prog 28 #[pv v0 v1 v2 v3, qv q] w fun e w' => DecP (decS q.k l g h PS NS) q us e w' ∧ Below w.heap.size w w' := by
 have hk := (rightQ_parts P.rightQ).1
 have h6 := P.q6
 unfold decS
 by_cases k1 : q.k = 1
 ·rw [if_pos (.inl k1)]; exact sim_Decide1 v0 v1 v2 v3 l g h qs q us PS NS w P k1
 by_cases k4 : q.k = 4
 ·rw [if_pos (.inr k4)]; exact sim_Decide4 v0 v1 v2 v3 l g h qs q us PS NS w P k4
 rw [if_neg (by omega)]
 by_cases k2 : q.k = 2
 ·exact sim_Decide2 v0 v1 v2 v3 l g h qs q us PS NS w P k2
 by_cases k3 : q.k = 3
 ·exact sim_Decide3 v0 v1 v2 v3 l g h qs q us PS NS w P k3
 exact sim_Decide5 v0 v1 v2 v3 l g h qs q us PS NS w P (by omega)
end Go.Proofs.YtcmdhfccdkjenaaGreatDoor
namespace Go.Proofs.YtcmdhfccdkjenaaGreatDoor
open Go.RowKit Go.Shelf

structure SimQ (w : World) (v0 v1 v2 v3 : Value) (l : List St) (g h : List Rl) (qs : List Qv) (q : Qv) (us : List ByteArray) : Prop where
 at_ : PolAt w v0 v1 v2 v3 l g h qs
 hu : SlA w 1 q.w us.length (strs us)
 qok : q.ok w
 hl : l.length ≤ 30
 hg : g.length ≤ 30
 hh : h.length ≤ 30
 l40 : allLe l 40
 gh : ∀ x ∈ g ++ h, x.le 40
 qa : q.a.le 40
 qb : q.b.le 40
 ul : us.length ≤ 40
 uz : ∀ s ∈ us, s.size ≤ 9223372036854775807
section
variable {w W : World} {v0 v1 v2 v3 vq : Value} {l : List St} {g h : List Rl} {qs : List Qv} {q : Qv} {us PS NS : List ByteArray}
theorem SimQ.below (P : SimQ w v0 v1 v2 v3 l g h qs q us) (hb : Below w.heap.size w W) : SimQ W v0 v1 v2 v3 l g h qs q us :=
 ⟨P.at_.below hb, P.hu.below hb, P.qok.below hb, P.hl, P.hg, P.hh, P.l40, P.gh, P.qa, P.qb, P.ul, P.uz⟩
theorem SimQ.whoF (P : SimQ w v0 v1 v2 v3 l g h qs q us) (hb : Below w.heap.size w W) : WhoF W [q] (fun _ => us) := fun x hx => by
 rw [List.mem_singleton.1 hx]; exact ⟨P.hu.below hb, P.ul⟩
theorem SimQ.simIn (P : SimQ w v0 v1 v2 v3 l g h qs q us) (hT : TB w) (hr : RightP l g h [q] (fun _ => us)) (h6 : ¬ q.k = 6) : SimIn w v0 v1 v2 v3 l g h qs q us (newB (allPrins l g h [q] (fun _ => us))) (newB (allNames l g h [q])) :=
 ⟨P.at_, P.hu, P.qok, P.hl, P.hg, P.hh, P.l40, P.gh, P.qa, P.qb, P.ul, P.uz, hT, hr, h6, rfl, rfl, hr.good.ps, hr.good.ns⟩
theorem simq_Right (P : SimQ w v0 v1 v2 v3 l g h qs q us) (hb : Below w.heap.size w W) (hq : SlA W 6 vq 1 q.cells) :
  Calls Tryz.prog 94 #[pv v0 v1 v2 vq] W fun e w' => RightI l g h [q] (fun _ => us) e ∧ Below W.heap.size W w' := by
 have hle : ∀ {x : Rl}, x.le 40 → x.le 4294967 := fun h => h.mono (by decide)
 exact policy_RightL v0 v1 v2 vq l g h [q] W (P.at_.only hb hq P.qok) (by have := P.hl; omega) (by have := P.hg; omega) (by have := P.hh; omega) (by simp) (fun x hx => (P.l40 x hx).mono (by decide)) (fun x hx => hle (P.gh x hx))
  (fun x hx => by rw [List.mem_singleton.1 hx]; exact ⟨hle P.qa, hle P.qb⟩) (fun _ => us) (P.whoF hb) (fun x hx => P.uz)
theorem simq_Is (P : SimQ w v0 v1 v2 v3 l g h qs q us) (hb : Below w.heap.size w W) :
  Calls Tryz.prog 31 #[qv q] W fun e w' => e = .returned (.bool (rightQ q us && !decide (q.k = 6))) ∧ Below W.heap.size W w' :=
 sim_Is q us W (P.qa.mono (by decide)) (P.qb.mono (by decide)) (P.hu.below hb) P.uz
end
set_option maxRecDepth 100000 in
set_option maxHeartbeats 8000000 in
theorem sim_DecideNo (v0 v1 v2 v3 : Value) (l : List St) (g h : List Rl) (qs : List Qv) (q : Qv) (us : List ByteArray) (w : World) (P : SimQ w v0 v1 v2 v3 l g h qs q us) (hno : ¬ (RightP l g h [q] (fun _ => us) ∧ ¬ q.k = 6)) :
  Calls Tryz.prog 28 #[pv v0 v1 v2 v3, qv q] w fun e w' => e = .returned (.tuple #[.agg #[.int .i64 0, .slice none 0 0, .int .i64 0, .int .i64 0], .int .i64 6]) ∧ Below w.heap.size w w' := by
 have HP := Lib.hid P
 have HN := Lib.hid hno
 obtain ⟨a0, c0, rfl⟩ := P.at_.rs.form
 obtain ⟨a1, c1, rfl⟩ := P.at_.rg.form
 obtain ⟨a2, c2, rfl⟩ := P.at_.rh.form
 obtain ⟨a3, c3, rfl⟩ := P.at_.rq.form
 obtain ⟨xk, ⟨x1, x2⟩, ⟨x3, x4⟩, wv⟩ := q
 obtain ⟨wo, wc, e1⟩ := P.hu.form
 dsimp only at e1
 subst e1
 clear P hno
 have HT := Lib.hid (show TriAt w #[.slice a0 l.length c0, .slice a1 g.length c1, .slice a2 h.length c2, .slice a3 qs.length c3] #[.int .i64 xk, .string x1, .string x2, .string x3, .string x4, .slice wo us.length wc] #[.int .i64 0, .slice none 0 0, .int .i64 0, .int .i64 0] (((w.alloc (.cells #[.slice a0 l.length c0, .slice a1 g.length c1, .slice a2 h.length c2, .slice a3 qs.length c3] 26)).alloc (.cells #[.int .i64 xk, .string x1, .string x2, .string x3, .string x4, .slice wo us.length wc] 45)).alloc (.cells #[.int .i64 0, .slice none 0 0, .int .i64 0, .int .i64 0] 48))
  from TriAt.new w _ _ _ _ _ _)
 go_enter Tryz.func28, Tryz.ntmps28
 go_upto_region 1 with fail
 obtain ⟨wk, hwk⟩ : ∃ W, W = (((w.alloc (.cells #[.slice a0 l.length c0, .slice a1 g.length c1, .slice a2 h.length c2, .slice a3 qs.length c3] 26)).alloc (.cells #[.int .i64 xk, .string x1, .string x2, .string x3, .string x4, .slice wo us.length wc] 45)).alloc (.cells #[.int .i64 0, .slice none 0 0, .int .i64 0, .int .i64 0] 48)) := ⟨_, rfl⟩
 rw [← hwk] at HT ⊢
 clear hwk
 obtain ⟨ca, fa, za⟩ := HT.out.a
 obtain ⟨cb, fb, zb⟩ := HT.out.b
 go_wp2_with fail
 refine (sim_Only (.slice a0 l.length c0) (.slice a1 g.length c1) (.slice a2 h.length c2) (.slice a3 qs.length c3) l g h qs ⟨xk, ⟨x1, x2⟩, ⟨x3, x4⟩, .slice wo us.length wc⟩ wk (HP.out.at_.below HT.out.low)).mono ?_
 rintro e w1 ⟨vq, rfl, hvq, hb1⟩
 obtain ⟨qa, qc, rfl⟩ := hvq.form
 have HT := Lib.hid (HT.out.later hb1)
 have HQ := Lib.hid hvq
 clear hvq hb1 ca fa za cb fb zb
 obtain ⟨ca, fa, za⟩ := HT.out.a
 go_upto_region 2 with fail
 obtain ⟨w2, hw2⟩ : ∃ W, W = puts w1 w.heap.size 0 [.slice a0 l.length c0, .slice a1 g.length c1, .slice a2 h.length c2, .slice qa 1 qc] := ⟨_, rfl⟩
 have hch : ((((w1.setCell ⟨w.heap.size, 0, none⟩ (.slice a0 l.length c0)).setCell ⟨w.heap.size, 1, none⟩ (.slice a1 g.length c1)).setCell ⟨w.heap.size, 2, none⟩ (.slice a2 h.length c2)).setCell ⟨w.heap.size, 3, none⟩ (.slice qa 1 qc)) = w2 := hw2.symm
 rw [hch]
 have HQ := Lib.hid (HQ.out.putsBlk [.slice a0 l.length c0, .slice a1 g.length c1, .slice a2 h.length c2, .slice qa 1 qc] 0 w1 _ HT.out.a (by simp) (by simp))
 have HT := Lib.hid (HT.out.putsA (.slice a0 l.length c0) (.slice a1 g.length c1) (.slice a2 h.length c2) (.slice qa 1 qc))
 rw [← hw2] at HQ HT
 clear hch hw2 ca fa za
 obtain ⟨ca, fa, za⟩ := HT.out.a
 obtain ⟨cb, fb, zb⟩ := HT.out.b
 go_wp2_with fail
 refine (simq_Right HP.out HT.out.low HQ.out).mono ?_
 rintro e w3 ⟨⟨br, rfl, hri⟩, hb3⟩
 have HRI := Lib.hid hri
 have HT := Lib.hid (HT.out.later hb3)
 clear hb3 hri ca fa za cb fb zb HQ
 cases br with
 | false =>
  obtain ⟨cc, fc, zc⟩ := HT.out.c
  go_wp2
  obtain ⟨wy, hwy⟩ : ∃ W, W = puts w3 (w.heap.size + 1 + 1) 0 [.int .i64 0, .slice none 0 0, .int .i64 0, .int .i64 0] := ⟨_, rfl⟩
  have hch : ((((w3.setCell ⟨w.heap.size + 1 + 1, 0, none⟩ (.int .i64 0)).setCell ⟨w.heap.size + 1 + 1, 1, none⟩ (.slice none 0 0)).setCell ⟨w.heap.size + 1 + 1, 2, none⟩ (.int .i64 0)).setCell ⟨w.heap.size + 1 + 1, 3, none⟩ (.int .i64 0)) = wy := hwy.symm
  rw [hch]
  have HT := Lib.hid (HT.out.putsC (.int .i64 0) (.slice none 0 0) (.int .i64 0) (.int .i64 0))
  rw [← hwy] at HT
  clear hch hwy cc fc zc
  obtain ⟨cc, fc, zc⟩ := HT.out.c
  exact bodyPost_ret (v := .tuple #[.agg #[.int .i64 0, .slice none 0 0, .int .i64 0, .int .i64 0], .int .i64 6]) (by simp [results, Tryz.results28, go_sem, cc]) rfl ⟨rfl, HT.out.low⟩
 | true =>
  have HK := Lib.hid (show (rightQ ⟨xk, ⟨x1, x2⟩, ⟨x3, x4⟩, .slice wo us.length wc⟩ us && !decide (xk = 6)) = false by
   have hr := HRI.out.1 (by first | rfl | trivial)
   have h6 : xk = 6 := Decidable.byContradiction (fun hn => HN.out ⟨hr, hn⟩)
   rw [decide_eq_true h6, Bool.not_true, Bool.and_false])
  clear HRI
  obtain ⟨cb, fb, zb⟩ := HT.out.b
  go_wp2_with fail
  refine (simq_Is HP.out HT.out.low).mono ?_
  rintro e w4 ⟨rfl, hb4⟩
  rw [HK.out]
  have HT := Lib.hid (HT.out.later hb4)
  clear hb4 cb fb zb
  obtain ⟨cc, fc, zc⟩ := HT.out.c
  go_wp2
  obtain ⟨wy, hwy⟩ : ∃ W, W = puts w4 (w.heap.size + 1 + 1) 0 [.int .i64 0, .slice none 0 0, .int .i64 0, .int .i64 0] := ⟨_, rfl⟩
  have hch : ((((w4.setCell ⟨w.heap.size + 1 + 1, 0, none⟩ (.int .i64 0)).setCell ⟨w.heap.size + 1 + 1, 1, none⟩ (.slice none 0 0)).setCell ⟨w.heap.size + 1 + 1, 2, none⟩ (.int .i64 0)).setCell ⟨w.heap.size + 1 + 1, 3, none⟩ (.int .i64 0)) = wy := hwy.symm
  rw [hch]
  have HT := Lib.hid (HT.out.putsC (.int .i64 0) (.slice none 0 0) (.int .i64 0) (.int .i64 0))
  rw [← hwy] at HT
  clear hch hwy cc fc zc
  obtain ⟨cc, fc, zc⟩ := HT.out.c
  exact bodyPost_ret (v := .tuple #[.agg #[.int .i64 0, .slice none 0 0, .int .i64 0, .int .i64 0], .int .i64 6]) (by simp [results, Tryz.results28, go_sem, cc]) rfl ⟨rfl, HT.out.low⟩
end Go.Proofs.YtcmdhfccdkjenaaGreatDoor
namespace Go.Proofs.YtcmdhfccdkjenaaGreatDoor
open Go.RowKit Go.Shelf

set_option maxRecDepth 100000 in
set_option maxHeartbeats 8000000 in
theorem ref13_Satisfies (va : Value) (ps : List Pr) (q : Qv) (us : List ByteArray) (w : World) (ha : SlA w 3 va ps.length (ps.flatMap pcells)) (hn : ps.length ≤ 10000) (hu : SlA w 1 q.w us.length (strs us)) :
  Calls Tryz.prog 39 #[va, qv q] w fun e w' => e = .returned (.bool (satQ (membersP ps) q us)) ∧ Below w.heap.size w w' := by
 have HA := Lib.hid ha
 have HU := Lib.hid hu
 have hma := membersP_len ps q.a
 have RS := Lib.hid (show satQ (membersP ps) q us = if q.k = 1 ∨ q.k = 2 then insideB us (membersP ps q.a) else if q.k = 3 then insideB (membersP ps q.a) us else if q.k = 4 then decide ((membersP ps q.a).length = 0) else if q.k = 5 then !((membersP ps q.a).any fun s => hasB (membersP ps q.b) s) else if q.k = 6 then insideB (membersP ps q.a) (membersP ps q.b) else false from rfl)
 generalize satQ (membersP ps) q us = res at RS ⊢
 obtain ⟨xk, ⟨x1, x2⟩, ⟨x3, x4⟩, wv⟩ := q
 dsimp only at RS HU hu hma
 obtain ⟨wo, wc, rfl⟩ := hu.form
 have HT := Lib.hid (show OneAt w #[.int .i64 xk, .string x1, .string x2, .string x3, .string x4, .slice wo us.length wc] (w.alloc (.cells #[.int .i64 xk, .string x1, .string x2, .string x3, .string x4, .slice wo us.length wc] 45)) from ⟨Blk.new w _ _, (Below.refl _ _).alloc (Nat.le_refl _) _⟩)
 clear hu ha
 go_enter Tryz.func39, Tryz.ntmps39
 go_wp2_with fail
 refine (ref11_Members va ps ⟨x1, x2⟩ _ (HA.out.below HT.out.low) hn).mono ?_
 rintro e w1 ⟨v1, rfl, hs1, hb1⟩
 obtain ⟨a1, c1, rfl⟩ := hs1.form
 have HT := Lib.hid (HT.out.later hb1)
 have H1 := Lib.hid hs1
 clear hs1 hb1
 obtain ⟨ca, fa, za⟩ := HT.out.a
 go_wp2_with fail
 refine (ref11_Members va ps ⟨x3, x4⟩ _ (HA.out.below HT.out.low) hn).mono ?_
 rintro e w2 ⟨v2, rfl, hs2, hb2⟩
 obtain ⟨a2, c2, rfl⟩ := hs2.form
 have HT := Lib.hid (HT.out.later hb2)
 have H1 := Lib.hid (H1.out.below hb2)
 have H2 := Lib.hid hs2
 clear hs2 hb2 ca fa za
 have HU := Lib.hid (HU.out.below HT.out.low)
 obtain ⟨ca, fa, za⟩ := HT.out.a
 generalize membersP ps ⟨x1, x2⟩ = ms at *
 generalize membersP ps ⟨x3, x4⟩ = ns at *
 by_cases h1 : xk = 1
 ·subst h1
  have R : Hid (res = insideB us ms) := Lib.hid (RS.out.trans (by rfl))
  clear RS
  go_wp2_with fail
  refine (ref11_Inside _ _ us ms w2 HU.out H1.out).mono ?_
  rintro e w3 ⟨rfl, rfl⟩
  clear ca fa za
  go_wp2_with fail
  go_ret
  exact ⟨ret_b R.out.symm, HT.out.low⟩
 by_cases h2 : xk = 2
 ·subst h2
  have R : Hid (res = insideB us ms) := Lib.hid (RS.out.trans (by rfl))
  clear RS
  go_wp2_with fail
  refine (ref11_Inside _ _ us ms w2 HU.out H1.out).mono ?_
  rintro e w3 ⟨rfl, rfl⟩
  clear ca fa za
  go_wp2_with fail
  go_ret
  exact ⟨ret_b R.out.symm, HT.out.low⟩
 by_cases h3 : xk = 3
 ·subst h3
  have R : Hid (res = insideB ms us) := Lib.hid (RS.out.trans (by rfl))
  clear RS
  go_wp2_with fail
  refine (ref11_Inside _ _ ms us w2 H1.out HU.out).mono ?_
  rintro e w3 ⟨rfl, rfl⟩
  clear ca fa za
  go_wp2_with fail
  go_ret
  exact ⟨ret_b R.out.symm, HT.out.low⟩
 by_cases h4 : xk = 4
 ·subst h4
  have R : Hid (res = decide (ms.length = 0)) := Lib.hid (RS.out.trans (by rfl))
  clear RS
  by_cases h0 : ms.length = 0
  ·have d0 : decide ((ms.length : Int) = 0) = true := decide_eq_true (by omega)
   have R := Lib.hid (R.out.trans (decide_eq_true h0))
   go_wp2
   go_ret
   exact ⟨by rw [R.out]; simp [h0], HT.out.low⟩
  ·have R := Lib.hid (R.out.trans (decide_eq_false h0))
   go_wp2
   go_ret
   exact ⟨by rw [R.out]; simp [h0], HT.out.low⟩
 by_cases h5 : xk = 5
 ·subst h5
  have R : Hid (res = !(ms.any fun s => hasB ns s)) := Lib.hid (RS.out.trans (by rfl))
  clear RS
  have RY := Lib.hid (fun k (hk : ¬ k < ms.length) (h : ∀ j (hj : j < ms.length), j < k → hasB ns ms[j] = false) => show res = true by
   rw [R.out, Bool.not_eq_true', List.any_eq_false]
   intro x hx
   obtain ⟨j, hj, rfl⟩ := List.getElem_of_mem hx
   rw [h j hj (by omega)]; exact Bool.false_ne_true)
  have RN := Lib.hid (fun k (hk : k < ms.length) (h : hasB ns ms[k] = true) => show res = false by
   rw [R.out, Bool.not_eq_false', List.any_eq_true]
   exact ⟨ms[k], List.getElem_mem hk, h⟩)
  have HH := Lib.hid (fun s => ref1_HasB _ ns s w2 H2.out)
  clear R
  go_wp2_with fail
  go_loopw [41] (fun i wr => ∃ k : Nat, k ≤ ms.length ∧ i = .int .i64 k ∧ wr = w2 ∧ Hid (∀ j (hj : j < ms.length), j < k → hasB ns ms[j] = false)) (fun i _ => ms.length - (intOf i).toNat)
  case atStart => exact ⟨0, by omega, rfl, rfl, Lib.hid (fun _ _ h => absurd h (by omega))⟩
  case round =>
   obtain ⟨k, hk, rfl, rfl, HK⟩ := hrel
   by_cases hlt : k < ms.length
   ·obtain ⟨b1, o1, e1, he1, hc1, hm1, hb1, hx1⟩ := H1.out.pos (by omega)
    simp only [Value.slice.injEq, true_and] at he1
    obtain ⟨rfl, rfl⟩ := he1
    have p0 := hx1 k _ (strs_get hlt)
    have HN := Lib.hid (fun (hn : hasB ns ms[k] = false) j (hj : j < ms.length) (hjk : j < k + 1) => show hasB ns ms[j] = false by
     by_cases hjk' : j < k
     ·exact HK.out j hj hjk'
     ·obtain rfl : j = k := by omega
      exact hn)
    have HNk := Lib.hid (RN.out k hlt)
    clear hx1
    generalize ms[k] = x at *
    have HHx := Lib.hid (HH.out x)
    generalize hasB ns x = t at *
    go_wp2_with fail
    refine HHx.out.mono ?_
    rintro e w3 ⟨rfl, rfl⟩
    cases t with
    | false =>
     have HN2 := Lib.hid (HN.out rfl)
     clear HN HNk HHx
     go_wp2_with fail
     exact ⟨⟨k + 1, by omega, by go_num, trivial, HN2⟩, by simp [intOf]; omega⟩
    | true =>
     have R := Lib.hid (HNk.out rfl)
     clear HN HNk HHx
     go_wp2_with fail
     go_ret
     exact ⟨ret_b R.out.symm, HT.out.low⟩
   ·have R := Lib.hid (RY.out k hlt HK.out)
    go_wp2
    go_ret
    exact ⟨ret_b R.out.symm, HT.out.low⟩
 by_cases h6 : xk = 6
 ·subst h6
  have R : Hid (res = insideB ms ns) := Lib.hid (RS.out.trans (by rfl))
  clear RS
  go_wp2_with fail
  refine (ref11_Inside _ _ ms ns w2 H1.out H2.out).mono ?_
  rintro e w3 ⟨rfl, rfl⟩
  clear ca fa za
  go_wp2_with fail
  go_ret
  exact ⟨ret_b R.out.symm, HT.out.low⟩
 have R : Hid (res = false) := Lib.hid (RS.out.trans (by rw [if_neg (by omega), if_neg h3, if_neg h4, if_neg h5, if_neg h6]))
 clear RS
 have d1 : (xk == 1) = false := by simp [h1]
 have d2 : (xk == 2) = false := by simp [h2]
 have d3 : (xk == 3) = false := by simp [h3]
 have d4 : (xk == 4) = false := by simp [h4]
 have d5 : (xk == 5) = false := by simp [h5]
 have d6 : (xk == 6) = false := by simp [h6]
 clear h1 h2 h3 h4 h5 h6
 go_wp2
 go_ret
 exact ⟨ret_b R.out.symm, HT.out.low⟩
set_option maxRecDepth 100000 in
set_option maxHeartbeats 8000000 in
theorem ref13_In (va : Value) (l : List St) (N : Nat) (q : Qv) (us : List ByteArray) (w : World) (ha : SlA w 9 va l.length (l.flatMap St.cells)) (hN : N ≤ 2000) (hB : ∀ ps : List Pr, ps.Nodup → SoundS l ps → ps.length ≤ N) (hu : SlA w 1 q.w us.length (strs us)) :
  Calls Tryz.prog 40 #[va, qv q] w fun e w' => ∃ ps, e = .returned (.bool (satQ (membersP ps) q us)) ∧ LeastS l (fun r x => (r, x) ∈ ps) ∧ Below w.heap.size w w' := by
 have HA := Lib.hid ha
 have HU := Lib.hid hu
 have HBd := Lib.hid hB
 obtain ⟨xk, ⟨x1, x2⟩, ⟨x3, x4⟩, wv⟩ := q
 dsimp only at HU hu
 obtain ⟨wo, wc, rfl⟩ := hu.form
 obtain ⟨a0, c0, rfl⟩ := ha.form
 have HT := Lib.hid (show OneAt w #[.int .i64 xk, .string x1, .string x2, .string x3, .string x4, .slice wo us.length wc] (w.alloc (.cells #[.int .i64 xk, .string x1, .string x2, .string x3, .string x4, .slice wo us.length wc] 45)) from ⟨Blk.new w _ _, (Below.refl _ _).alloc (Nat.le_refl _) _⟩)
 clear hu ha hB
 go_enter Tryz.func40, Tryz.ntmps40
 go_wp2_with fail
 have HT := HT.out.drew
 refine wp_region_held_drew (S := (fun W => ∀ o, W.cell? ⟨w.heap.size, o, none⟩ = (#[.int .i64 xk, .string x1, .string x2, .string x3, .string x4, .slice wo us.length wc] : Array Value)[o]?)) (by kernel_rfl) HT.a.1 (fun hHeld => ?_)
 obtain ⟨wk, hwk⟩ : ∃ W, W = (w.alloc (.cells #[.int .i64 xk, .string x1, .string x2, .string x3, .string x4, .slice wo us.length wc] 45)).drew := ⟨_, rfl⟩
 rw [← hwk] at HT hHeld ⊢
 clear hwk
 (refine hyes 0 ?_); (refine hyes 2 ?_); (try simp only [Act.put, List.setIfInBounds_toArray, List.set])
 (refine held_call 1 rfl (by kernel_rfl) (fun K hK => ?_); go_simp)
 go_at_call 25; refine (ref11_Eval _ l N _ (HA.out.below HT.low) hN HBd.out).mono ?_; rintro e wz1 ⟨v1, ps, rfl, ho1, hle, _, hpl, hbq⟩; obtain ⟨a1, c1, rfl⟩ := own_form ho1
 have HT := HT.later hbq
 have HP1 := Lib.hid (Sl.of_own ho1).a
 clear hbq
 clear ho1
 (refine hK.out _ _ (HT.a.1) (fun hHeld => ?_); clear hK K; (try simp only [Act.put, List.setIfInBounds_toArray, List.set]))
 (refine held_call 3 rfl (by kernel_rfl) (fun K hK => ?_); go_simp)
 go_at_call 39; refine (ref13_Satisfies _ ps ⟨xk, ⟨x1, x2⟩, ⟨x3, x4⟩, .slice wo us.length wc⟩ us _ HP1.out (by omega) (HU.out.below HT.low)).mono ?_; rintro e wz3 ⟨rfl, hbq⟩
 have HT := HT.later hbq
 have HP1 := Lib.hid (HP1.out.below hbq)
 clear hbq
 (refine hK.out _ _ (HT.a.1) (fun hHeld => ?_); clear hK K; (try simp only [Act.put, List.setIfInBounds_toArray, List.set]))
 (refine hyes 4 ?_); (try simp only [Act.put, List.setIfInBounds_toArray, List.set])
 refine wpAnyH_done (by kernel_rfl) ?_ _
 have HZ := Lib.hid HT.low
 clear HT
 go_wp2_with fail
 go_ret
 exact ⟨ps, rfl, hle, HZ.out⟩
end Go.Proofs.YtcmdhfccdkjenaaGreatDoor
namespace Go.Proofs.YtcmdhfccdkjenaaGreatDoor
open Go.RowKit Go.Shelf

def LightT (l : List ByteArray) (e : Ending) : Prop := ∃ b, e = .returned (.bool b) ∧ (b = true → l.length ≤ 40 ∧ ∀ x ∈ l, x.size ≤ 40)
set_option maxHeartbeats 1000000 in
theorem law1_LightT (va : Value) (l : List ByteArray) (w : World) (ha : SlA w 1 va l.length (strs l)) (hl : ∀ s ∈ l, s.size ≤ 9223372036854775807) :
  Calls Tryz.prog 59 #[va] w fun e w' => LightT l e ∧ w' = w := by
 have HA := Lib.hid ha
 have HL := Lib.hid hl
 have hmax := ha.max
 obtain ⟨ao, cap, hva⟩ := ha.form
 subst hva
 clear ha hl
 go_enter Tryz.func59, Tryz.ntmps59
 by_cases h40 : 40 < l.length
 ·have d : decide ((40 : Int) < (l.length : Int)) = true := by (rw [decide_eq_true_iff]; omega)
  go_wp2
  go_ret
  exact ⟨⟨false, rfl, fun h => by cases h⟩, rfl⟩
 have d : decide ((40 : Int) < (l.length : Int)) = false := by (rw [decide_eq_false_iff_not]; omega)
 go_wp2
 go_loop [10] (fun i => ∃ k : Nat, k ≤ l.length ∧ i = .int .i64 k ∧ Hid (∀ j (hj : j < l.length), j < k → l[j].size ≤ 40)) (fun i => l.length - (intOf i).toNat)
 case atStart => exact ⟨0, by omega, rfl, Lib.hid (fun j hj h => absurd h (by omega))⟩
 case round =>
  obtain ⟨k, hk, rfl, HS⟩ := hrel
  by_cases hlt : k < l.length
  ·obtain ⟨b1, o1, c1, he1, hc1, hm1, hb1, hx1⟩ := HA.out.pos (by omega)
   simp only [Value.slice.injEq, true_and] at he1
   obtain ⟨rfl, rfl⟩ := he1
   have p0 := hx1 k _ (strs_get hlt)
   have hsz := HL.out l[k] (List.getElem_mem hlt)
   clear hx1
   by_cases h : 40 < l[k].size
   ·have d1 : decide ((40 : Int) < (l[k].size : Int)) = true := by (rw [decide_eq_true_iff]; omega)
    clear h
    go_wp2
    go_ret
    exact ⟨⟨false, rfl, fun h => by cases h⟩, rfl⟩
   ·have d1 : decide ((40 : Int) < (l[k].size : Int)) = false := by (rw [decide_eq_false_iff_not]; omega)
    have HS2 := Lib.hid (show ∀ j (hj : j < l.length), j < k + 1 → l[j].size ≤ 40 from fun j hj hjk => by
     by_cases e : j = k
     ·subst e; omega
     ·exact HS.out j hj (by omega))
    clear h HS
    go_wp2
    exact ⟨⟨k + 1, by omega, by go_num, HS2⟩, by simp [intOf]; omega⟩
  ·go_wp2
   go_ret
   exact ⟨⟨true, rfl, fun _ => ⟨by omega, fun x hx => by obtain ⟨j, hj, rfl⟩ := List.getElem_of_mem hx; exact HS.out j hj (by omega)⟩⟩, rfl⟩
end Go.Proofs.YtcmdhfccdkjenaaGreatDoor
namespace Go.Proofs.YtcmdhfccdkjenaaGreatDoor
open Go.RowKit Go.Shelf

def Qv.okS (q : Qv) (w : World) : Prop := q.okN 40 w ∧ q.a.le 40 ∧ q.b.le 40
def LightQS (q : Qv) (w : World) (e : Ending) : Prop := ∃ b, e = .returned (.bool b) ∧ (b = true → q.okS w)
theorem okS_back {q : Qv} {w W : World} (h : q.ok w) (hb : Below w.heap.size w W) (h' : q.okS W) : q.okS w := ⟨okN_back h hb h'.1, h'.2⟩
def LightV (w : World) (l : List St) (g h : List Rl) (qs : List Qv) (e : Ending) : Prop := ∃ b, e = .returned (.bool b) ∧ (b = true → (l.length ≤ 30 ∧ g.length ≤ 30 ∧ h.length ≤ 30 ∧ qs.length ≤ 30 ∧ allLe l 40 ∧ ∀ q ∈ qs, q.okS w) ∧ ∀ x ∈ g ++ h, x.le 40)
set_option maxRecDepth 100000 in
set_option maxHeartbeats 1000000 in
theorem law4_LightS (q : Qv) (w : World) (hq : q.ok w) : Calls Tryz.prog 26 #[qv q] w fun e w' => LightQS q w e ∧ Below w.heap.size w w' := by
 obtain ⟨ha, hb, ss, hs, hl⟩ := hq
 obtain ⟨k, ⟨x1, x2⟩, ⟨x3, x4⟩, wv⟩ := q
 have HS := Lib.hid (fun W h => law1_Light wv ss W h hl)
 have HQ := Lib.hid (fun (h : ss.length ≤ 40) (h4 : [x1, x2, x3, x4].length ≤ 40 ∧ ∀ x ∈ [x1, x2, x3, x4], x.size ≤ 40) => show (⟨k, ⟨x1, x2⟩, ⟨x3, x4⟩, wv⟩ : Qv).okS w from ⟨⟨ha, hb, ss, hs, h, hl⟩, ⟨h4.2 _ (by simp), h4.2 _ (by simp)⟩, ⟨h4.2 _ (by simp), h4.2 _ (by simp)⟩⟩)
 have HW := Lib.hid hs
 have H4 := Lib.hid (fun W h => law1_LightT (.slice (some ⟨w.heap.size + 1, 0, none⟩) 4 4) [x1, x2, x3, x4] W h (by
  intro s hs; simp at hs; rcases hs with rfl | rfl | rfl | rfl
  ·exact ha.1
  ·exact ha.2
  ·exact hb.1
  ·exact hb.2))
 obtain ⟨wo, wc, rfl⟩ := hs.form
 clear ha hb hl hs
 have HB := Lib.hid ((Below.refl _ w).alloc (Nat.le_refl _) (.cells #[.int .i64 k, .string x1, .string x2, .string x3, .string x4, .slice wo ss.length wc] 45))
 have HB2 := Lib.hid (HB.out.alloc HB.out.size (.cells #[.string x1, .string x2, .string x3, .string x4] 9))
 have S4 := Lib.hid (Sl.new (w.alloc (.cells #[.int .i64 k, .string x1, .string x2, .string x3, .string x4, .slice wo ss.length wc] 45)) [.string x1, .string x2, .string x3, .string x4] 9 1 4 (w.heap.size + 1) (by simp) rfl (by simp [maxLen]))
 go_enter Tryz.func26, Tryz.ntmps26
 go_wp2_with fail
 refine (HS.out _ (HW.out.below HB.out)).mono ?_
 rintro e w1 ⟨⟨b1, rfl, hb1⟩, rfl⟩
 have HB1 := Lib.hid hb1
 clear hb1
 cases b1 with
 | false =>
  go_wp2
  go_ret
  exact ⟨⟨false, rfl, fun h => by cases h⟩, HB.out⟩
 | true =>
  go_wp2_with fail
  refine (H4.out _ S4.out.a).mono ?_
  rintro e w1 ⟨⟨b2, rfl, hb2⟩, rfl⟩
  have HB4 := Lib.hid hb2
  clear hb2
  go_wp2
  go_ret
  exact ⟨⟨b2, rfl, fun h => HQ.out (HB1.out (by first | rfl | trivial)) (HB4.out h)⟩, HB2.out⟩
set_option maxRecDepth 100000 in
set_option maxHeartbeats 8000000 in
theorem law5_LightS (v0 v1 v2 v3 : Value) (l : List St) (g h : List Rl) (qs : List Qv) (w : World) (hp : PolAt w v0 v1 v2 v3 l g h qs) :
  Calls Tryz.prog 15 #[pv v0 v1 v2 v3] w fun e w' => LightV w l g h qs e ∧ Below w.heap.size w w' := by
 have HP := Lib.hid hp
 have hm0 := hp.rs.max
 have hm1 := hp.rg.max
 have hm2 := hp.rh.max
 have hm3 := hp.rq.max
 obtain ⟨a0, c0, rfl⟩ := hp.rs.form
 obtain ⟨a1, c1, rfl⟩ := hp.rg.form
 obtain ⟨a2, c2, rfl⟩ := hp.rh.form
 obtain ⟨a3, c3, rfl⟩ := hp.rq.form
 have HL := Lib.hid (fun k (hk : k < l.length) W => law3_Light l[k] W (hp.ls _ (List.getElem_mem hk)))
 have T0 := Lib.hid (show OneAt w #[.slice a0 l.length c0, .slice a1 g.length c1, .slice a2 h.length c2, .slice a3 qs.length c3] (w.alloc (.cells #[.slice a0 l.length c0, .slice a1 g.length c1, .slice a2 h.length c2, .slice a3 qs.length c3] 26)) from ⟨Blk.new w _ _, (Below.refl _ _).alloc (Nat.le_refl _) _⟩)
 clear hp
 go_enter Tryz.func15, Tryz.ntmps15
 by_cases t0 : 30 < l.length
 ·have d0 : decide ((30 : Int) < (l.length : Int)) = true := by (rw [decide_eq_true_iff]; omega)
  go_wp2
  go_ret
  exact ⟨⟨false, rfl, (fun h => by cases h)⟩, T0.out.low⟩
 have d0 : decide ((30 : Int) < (l.length : Int)) = false := by (rw [decide_eq_false_iff_not]; omega)
 by_cases t1 : 30 < g.length
 ·have d1 : decide ((30 : Int) < (g.length : Int)) = true := by (rw [decide_eq_true_iff]; omega)
  go_wp2
  go_ret
  exact ⟨⟨false, rfl, (fun h => by cases h)⟩, T0.out.low⟩
 have d1 : decide ((30 : Int) < (g.length : Int)) = false := by (rw [decide_eq_false_iff_not]; omega)
 by_cases t2 : 30 < h.length
 ·have d2 : decide ((30 : Int) < (h.length : Int)) = true := by (rw [decide_eq_true_iff]; omega)
  go_wp2
  go_ret
  exact ⟨⟨false, rfl, (fun h => by cases h)⟩, T0.out.low⟩
 have d2 : decide ((30 : Int) < (h.length : Int)) = false := by (rw [decide_eq_false_iff_not]; omega)
 by_cases t3 : 30 < qs.length
 ·have d3 : decide ((30 : Int) < (qs.length : Int)) = true := by (rw [decide_eq_true_iff]; omega)
  go_wp2
  go_ret
  exact ⟨⟨false, rfl, (fun h => by cases h)⟩, T0.out.low⟩
 have d3 : decide ((30 : Int) < (qs.length : Int)) = false := by (rw [decide_eq_false_iff_not]; omega)
 go_wp2_with fail
 clear d0 d1 d2 d3
 go_loopw [34] (fun i wr => ∃ k : Nat, k ≤ l.length ∧ i = .int .i64 k ∧ Hid (OneAt w #[.slice a0 l.length c0, .slice a1 g.length c1, .slice a2 h.length c2, .slice a3 qs.length c3] wr) ∧ Hid (∀ j (hj : j < l.length), j < k → l[j].le 40)) (fun i _ => l.length - (intOf i).toNat)
 case atStart => exact ⟨0, by omega, rfl, T0, Lib.hid (fun _ _ h => absurd h (by omega))⟩
 case round =>
  obtain ⟨k, hk, rfl, TR, HJ⟩ := hrel
  by_cases hlt : k < l.length
  ·obtain ⟨b1, o1, e1, he1, hc1, hm1', hb1, hx1⟩ := HP.out.rs.pos (by omega)
   simp only [Value.slice.injEq, true_and] at he1
   obtain ⟨rfl, rfl⟩ := he1
   obtain ⟨p0, p1, p2, p3, p4, p5, p6, p7, p8⟩ := st_cell (w := wr) (fun j u hu => (TR.out.low.cell (p := ⟨b1, o1 + j, none⟩) hb1).trans (hx1 j u hu)) k hlt
   have hbr : b1 < wr.heap.size := Nat.lt_of_lt_of_le hb1 TR.out.low.size
   have HLk := Lib.hid (fun W => HL.out k hlt W)
   clear hx1
   go_wp2_with fail
   refine (HLk.out _).mono ?_
   rintro e w2 ⟨b, rfl, hle, hb2⟩
   have HLE := Lib.hid hle
   have T2 := Lib.hid ((TR.out.alloc _).later hb2)
   clear hle hb2
   cases b with
   | false =>
    go_wp2
    go_ret
    exact ⟨⟨false, rfl, (fun h => by cases h)⟩, T2.out.low⟩
   | true =>
    have HJ2 : Hid (∀ j (hj : j < l.length), j < k + 1 → l[j].le 40) := Lib.hid (fun j hj hjk => by
     by_cases h : j < k
     ·exact HJ.out j hj h
     ·obtain rfl : j = k := by omega
      exact HLE.out (by first | rfl | trivial))
    go_wp2
    exact ⟨⟨k + 1, by omega, by go_num, T2, HJ2⟩, by simp [intOf]; omega⟩
  ·have HJ3 := Lib.hid (show allLe l 40 from fun x hx => by
    obtain ⟨j, hj, rfl⟩ := List.getElem_of_mem hx
    exact HJ.out j hj (by omega))
   obtain ⟨ca, fa, za⟩ := TR.out.a
   clear HJ HL
   go_wp2_with fail
   go_loopw [45] (fun i wr => ∃ k : Nat, k ≤ qs.length ∧ i = .int .i64 k ∧ Hid (OneAt w #[.slice a0 l.length c0, .slice a1 g.length c1, .slice a2 h.length c2, .slice a3 qs.length c3] wr) ∧ Hid (∀ j (hj : j < qs.length), j < k → qs[j].okS w)) (fun i _ => qs.length - (intOf i).toNat)
   case atStart => exact ⟨0, by omega, rfl, TR, Lib.hid (fun _ _ h => absurd h (by omega))⟩
   case round =>
    clear TR ca fa za
    obtain ⟨k, hk, rfl, TR, HQJ⟩ := hrel
    by_cases hlt : k < qs.length
    ·obtain ⟨b1, o1, e1, he1, hc1, hm1', hb1, hx1⟩ := HP.out.rq.pos (by omega)
     simp only [Value.slice.injEq, true_and] at he1
     obtain ⟨rfl, rfl⟩ := he1
     obtain ⟨p0, p1, p2, p3, p4, p5⟩ := q_cell (w := wr) (fun j u hu => (TR.out.low.cell (p := ⟨b1, o1 + j, none⟩) hb1).trans (hx1 j u hu)) k hlt
     have hbr : b1 < wr.heap.size := Nat.lt_of_lt_of_le hb1 TR.out.low.size
     have hqo := HP.out.lq _ (List.getElem_mem hlt)
     have QL := Lib.hid (fun W (hb : Below w.heap.size w W) => law4_LightS qs[k] W (hqo.below hb))
     have QB := Lib.hid (fun (W : World) (hb : Below w.heap.size w W) (h : qs[k].okS W) => okS_back hqo hb h)
     have HQ2 : Hid (qs[k].okS w → ∀ j (hj : j < qs.length), j < k + 1 → qs[j].okS w) := Lib.hid (fun hpk j hj hjk => by
      by_cases h : j < k
      ·exact HQJ.out j hj h
      ·obtain rfl : j = k := by omega
       exact hpk)
     obtain ⟨wo, wc, hw5⟩ : ∃ a c, qs[k].w = .slice a ((hqo.2.2).choose).length c := ((hqo.2.2).choose_spec.1).form
     generalize (hqo.2.2).choose.length = nw at hw5
     have hek : qs[k] = ⟨qs[k].k, ⟨qs[k].a.o, qs[k].a.n⟩, ⟨qs[k].b.o, qs[k].b.n⟩, qs[k].w⟩ := rfl
     clear hx1 hqo
     generalize qs[k] = x at *
     obtain ⟨xk, ⟨x1, x2⟩, ⟨x3, x4⟩, xw⟩ := x
     dsimp only at hw5
     subst hw5
     clear hek
     have T2 := Lib.hid (TR.out.alloc (.cells #[.int .i64 xk, .string x1, .string x2, .string x3, .string x4, .slice wo nw wc] 45))
     go_wp2_with fail
     refine (QL.out _ T2.out.low).mono ?_
     rintro e w2 ⟨⟨b, rfl, hbq⟩, hb2⟩
     have T3 := Lib.hid (T2.out.later hb2)
     have HBQ := Lib.hid (fun h => HQ2.out (QB.out _ T2.out.low (hbq h)))
     clear hb2 hbq
     cases b with
     | false =>
      go_wp2
      go_ret
      exact ⟨⟨false, rfl, (fun h => by cases h)⟩, T3.out.low⟩
     | true =>
      go_wp2
      exact ⟨⟨k + 1, by omega, by go_num, T3, Lib.hid (HBQ.out (by first | rfl | trivial))⟩, by simp [intOf]; omega⟩
    ·have HQA := Lib.hid (show ∀ q ∈ qs, q.okS w from fun q hq => by
      obtain ⟨j, hj, rfl⟩ := List.getElem_of_mem hq
      exact HQJ.out j hj (by omega))
     obtain ⟨inf, hi, hz0, hz1, hz2⟩ := info_parts rl_info'
     have HINF := Lib.hid hi
     have T2 := TR.out.drew
     have hown : (wr.drew.alloc (.cells #[] 28)).ownsRow wr.heap.size 28 2 (.slice (some ⟨wr.heap.size, 0, none⟩) 0 0) 0 [] := World.ownsRow_made wr.drew #[] 0 (Nat.le_refl _) (Nat.zero_le _) (by simp)
     have hlow : Below wr.heap.size wr (wr.drew.alloc (.cells #[] 28)) := (below_drew (Below.refl _ _)).alloc (Nat.le_refl _) _
     have T4 := TR.out.later hlow
     obtain ⟨ca, fa, za⟩ := TR.out.a
     have hza : w.heap.size < wr.heap.size := za
     clear hi fa za
     go_wp2_with fail
     go_region_held3 (fun W => ∀ o, W.cell? ⟨w.heap.size, o, none⟩ = (#[.slice a0 l.length c0, .slice a1 g.length c1, .slice a2 h.length c2, .slice a3 qs.length c3] : Array Value)[o]?)
      (first | exact T2.a.1 | exact T4.a.1 | exact T5.a.1 | exact T6.a.1 | go_keep)
      (first
       | (refine step_row rfl _ _ 23 rfl wr.heap.size 28 inf _ 2 32 Tryz.underlying23 HINF.out hz0 hz1 hz2 (Nat.le_of_ble_eq_true rfl) rfl (Nat.le_of_ble_eq_true rfl) _ 0 [] rfl hown _ g.length _ rfl (HP.out.rg.below T4.low) (rls_one _) ?_ hlow.size ?_; omega; intro a5 c5 w5 hown5 hg5; have hb5 := below_own hlow hown hg5 hlow.size (Nat.le_refl _); have T5 := TR.out.later hb5)
       | (refine step_row rfl _ _ 23 rfl wr.heap.size 28 inf _ 2 32 Tryz.underlying23 HINF.out hz0 hz1 hz2 (Nat.le_of_ble_eq_true rfl) rfl (Nat.le_of_ble_eq_true rfl) _ (0 + g.length) _ rfl hown5 _ h.length _ rfl (HP.out.rh.below T5.low) (rls_one _) ?_ hb5.size ?_; omega; intro a6 c6 w6 hown6 hg6; have hb6 := below_own hb5 hown5 hg6 hb5.size (Nat.le_refl _); have T6 := TR.out.later hb6; obtain ⟨n6, hn6⟩ : ∃ n6, n6 = 0 + g.length + h.length := ⟨_, rfl⟩; rw [← hn6] at hown6 ⊢; have HN6 := Lib.hid hn6; clear hn6))
     have HS6 := Lib.hid (show Sl w6 2 (.slice a6 n6 c6) n6 ((g ++ h).flatMap Rl.cells) by have := Sl.of_own hown6; rw [rl_flat]; simpa using this)
     have HLe := Lib.hid (show ∀ x ∈ g ++ h, x.le 9223372036854775807 from fun x hx => by
      rcases List.mem_append.1 hx with hx | hx
      ·exact HP.out.lg x hx
      ·exact HP.out.lh x hx)
     have HN := Lib.hid (show n6 = (g ++ h).length by rw [HN6.out, List.length_append]; omega)
     have HB6 := Lib.hid T6.low
     have hn6m : n6 ≤ 1000 := by have := HN6.out; omega
     have HGH : ∃ gh, Hid (g ++ h = gh) := ⟨_, Lib.hid rfl⟩
     obtain ⟨gh, HGH⟩ := HGH
     rw [HGH.out] at HS6 HLe HN
     clear hown5 hown6 hg5 hg6 hb5 hb6 T2 T4 T5 T6 hlow hown ca hza TR HN6
     go_wp2_with fail
     go_loopw [61] (fun i wr => ∃ k : Nat, k ≤ n6 ∧ i = .int .i64 k ∧ Hid (Below w6.heap.size w6 wr) ∧ Hid (∀ j (hj : j < gh.length), j < k → gh[j].le 40)) (fun i _ => n6 - (intOf i).toNat)
     case atStart => exact ⟨0, by omega, rfl, Lib.hid (Below.refl _ _), Lib.hid (fun _ _ h => absurd h (by omega))⟩
     case round =>
      obtain ⟨k, hk, rfl, HB, HRJ⟩ := hrel
      by_cases hlt : k < n6
      ·obtain ⟨b1, o1, e1, he1, hc1, hm1', hb1, hx1⟩ := HS6.out.pos (by omega)
       simp only [Value.slice.injEq, true_and] at he1
       obtain ⟨rfl, rfl⟩ := he1
       have hlt2 : k < gh.length := by have := HN.out; omega
       obtain ⟨p0, p1⟩ := rl_cell (w := wr) (fun j u hu => (HB.out.cell (p := ⟨b1, o1 + j, none⟩) hb1).trans (hx1 j u hu)) k hlt2
       have hbr : b1 < wr.heap.size := Nat.lt_of_lt_of_le hb1 HB.out.size
       have hle := HLe.out _ (List.getElem_mem hlt2)
       have HR2 : Hid (gh[k].le 40 → ∀ j (hj : j < gh.length), j < k + 1 → gh[j].le 40) := Lib.hid (fun hpk j hj hjk => by
        by_cases h : j < k
        ·exact HRJ.out j hj h
        ·obtain rfl : j = k := by omega
         exact hpk)
       clear hx1
       generalize gh[k] = x at *
       obtain ⟨x1, x2⟩ := x
       have hz1' : x1.size ≤ 9223372036854775807 := hle.1
       have hz2' : x2.size ≤ 9223372036854775807 := hle.2
       have HB2 := Lib.hid (HB.out.alloc HB.out.size (.cells #[.string x1, .string x2] 28))
       clear hle
       by_cases q1 : 40 < x1.size
       ·have d1 : decide ((40 : Int) < (x1.size : Int)) = true := by (rw [decide_eq_true_iff]; omega)
        clear q1
        go_wp2
        go_ret
        exact ⟨⟨false, rfl, (fun h => by cases h)⟩, HB6.out.trans (HB2.out.mono HB6.out.size)⟩
       have d1 : decide ((40 : Int) < (x1.size : Int)) = false := by (rw [decide_eq_false_iff_not]; omega)
       have Q1 := Lib.hid q1
       clear q1
       by_cases q2 : 40 < x2.size
       ·have d2 : decide ((40 : Int) < (x2.size : Int)) = true := by (rw [decide_eq_true_iff]; omega)
        clear q2
        go_wp2
        go_ret
        exact ⟨⟨false, rfl, (fun h => by cases h)⟩, HB6.out.trans (HB2.out.mono HB6.out.size)⟩
       have d2 : decide ((40 : Int) < (x2.size : Int)) = false := by (rw [decide_eq_false_iff_not]; omega)
       have HR3 := Lib.hid (HR2.out ⟨by have := Q1.out; show x1.size ≤ 40; omega, by show x2.size ≤ 40; omega⟩)
       clear q2
       go_wp2
       exact ⟨⟨k + 1, by omega, by go_num, HB2, HR3⟩, by simp [intOf]; omega⟩
      ·have HR4 : Hid (∀ x ∈ g ++ h, x.le 40) := Lib.hid (by
        rw [HGH.out]
        intro x hx
        obtain ⟨j, hj, rfl⟩ := List.getElem_of_mem hx
        exact HRJ.out j hj (by have := HN.out; omega))
       go_wp2
       go_ret
       exact ⟨⟨true, rfl, (fun _ => ⟨⟨by omega, by omega, by omega, by omega, HJ3.out, HQA.out⟩, HR4.out⟩)⟩, HB6.out.trans (HB.out.mono HB6.out.size)⟩
end Go.Proofs.YtcmdhfccdkjenaaGreatDoor
namespace Go.Proofs.YtcmdhfccdkjenaaGreatDoor
open Go.RowKit Go.Shelf

def SmallQ (w : World) (v0 v1 v2 v3 : Value) (l : List St) (g h : List Rl) (qs : List Qv) (q : Qv) (us : List ByteArray) (e : Ending) : Prop := ∃ b, e = .returned (.bool b) ∧ (b = true → ∃ PS NS, (¬ q.k = 6 → SimIn w v0 v1 v2 v3 l g h qs q us PS NS) ∧ PS.length ≤ 6 ∧ NS.length ≤ 4)
theorem small13_no {w : World} {v0 v1 v2 v3 : Value} {l : List St} {g h : List Rl} {qs : List Qv} {q : Qv} {us : List ByteArray} : SmallQ w v0 v1 v2 v3 l g h qs q us (.returned (.bool false)) := ⟨false, rfl, fun h => by cases h⟩
theorem TwoAt.put3 {w wx : World} {B : Array Value} {z0 z1 z2 z3 : Value} (h : TwoAt w #[z0, z1, z2, z3] B wx) (x : Value) : TwoAt w #[z0, z1, z2, x] B (wx.setCell ⟨w.heap.size, 3, none⟩ x) :=
 ⟨show Blk _ _ (#[z0, z1, z2, z3].setIfInBounds 3 x) from h.a.put (by simp), h.b.far (by omega), below_put h.low (Nat.le_refl _)⟩
set_option maxRecDepth 100000 in
set_option maxHeartbeats 8000000 in
theorem law13_Small (v0 v1 v2 v3 : Value) (l : List St) (g h : List Rl) (qs : List Qv) (q : Qv) (us : List ByteArray) (w : World) (hp : PolAt w v0 v1 v2 v3 l g h qs) (hq : q.ok w) (hu : SlA w 1 q.w us.length (strs us)) (huz : ∀ s ∈ us, s.size ≤ 9223372036854775807) (hT : TB w) :
  Calls Tryz.prog 33 #[pv v0 v1 v2 v3, qv q] w fun e w' => SmallQ w v0 v1 v2 v3 l g h qs q us e ∧ Below w.heap.size w w' := by
 have HP := Lib.hid hp
 have HTB := Lib.hid hT
 have HQK := Lib.hid hq
 have LP := Lib.hid (fun W hb => law5_LightS v0 v1 v2 v3 l g h qs W (hp.below (w' := W) hb))
 have LQ := Lib.hid (fun W (hb : Below w.heap.size w W) => law4_LightS q W (hq.below hb))
 have HU := Lib.hid hu
 have HUZ := Lib.hid huz
 obtain ⟨a0, c0, rfl⟩ := hp.rs.form
 obtain ⟨a1, c1, rfl⟩ := hp.rg.form
 obtain ⟨a2, c2, rfl⟩ := hp.rh.form
 obtain ⟨a3, c3, rfl⟩ := hp.rq.form
 obtain ⟨xk, ⟨x1, x2⟩, ⟨x3, x4⟩, wv⟩ := q
 obtain ⟨wo, wc, e1⟩ := hu.form
 dsimp only at e1 HU
 obtain ⟨wn, hwn⟩ : ∃ n, n = us.length := ⟨_, rfl⟩
 rw [← hwn] at e1
 subst e1
 have HWN := Lib.hid hwn
 clear hp hT hq hu huz hwn
 have HT := Lib.hid (show TwoAt w #[.slice a0 l.length c0, .slice a1 g.length c1, .slice a2 h.length c2, .slice a3 qs.length c3] #[.int .i64 xk, .string x1, .string x2, .string x3, .string x4, .slice wo wn wc] ((w.alloc (.cells #[.slice a0 l.length c0, .slice a1 g.length c1, .slice a2 h.length c2, .slice a3 qs.length c3] 26)).alloc (.cells #[.int .i64 xk, .string x1, .string x2, .string x3, .string x4, .slice wo wn wc] 45))
  from ⟨(Blk.new w _ _).alloc _, (by have := Blk.new (w.alloc (.cells #[.slice a0 l.length c0, .slice a1 g.length c1, .slice a2 h.length c2, .slice a3 qs.length c3] 26)) #[.int .i64 xk, .string x1, .string x2, .string x3, .string x4, .slice wo wn wc] 45; simpa using this), ((Below.refl _ _).alloc (Nat.le_refl _) _).alloc (by simp) _⟩)
 go_enter Tryz.func33, Tryz.ntmps33
 go_upto_region 1 with fail
 obtain ⟨wk, hwk⟩ : ∃ W, W = ((w.alloc (.cells #[.slice a0 l.length c0, .slice a1 g.length c1, .slice a2 h.length c2, .slice a3 qs.length c3] 26)).alloc (.cells #[.int .i64 xk, .string x1, .string x2, .string x3, .string x4, .slice wo wn wc] 45)) := ⟨_, rfl⟩
 rw [← hwk] at HT ⊢
 clear hwk
 obtain ⟨ca, fa, za⟩ := HT.out.a
 go_wp2_with fail
 refine (LP.out _ HT.out.low).mono ?_
 rintro e w1 ⟨⟨bp, rfl, hlp⟩, hb1⟩
 have HT := Lib.hid (HT.out.later hb1)
 have HLP := Lib.hid hlp
 clear hlp hb1 LP ca fa za
 cases bp with
 | false =>
  go_wp2_with fail
  go_ret
  exact ⟨small13_no, HT.out.low⟩
 | true =>
 obtain ⟨⟨hl30, hg30, hh30, hq30, hl40, hqk⟩, hgh⟩ := HLP.out (by first | rfl | trivial)
 obtain ⟨F, hF, hFs⟩ := who_ex2 HP.out.lq (fun x hx => (hqk x hx).1)
 have HF := Lib.hid hF
 have HFs := Lib.hid hFs
 have HL40 := Lib.hid hl40
 have HGH := Lib.hid hgh
 clear HLP hqk hgh hF hFs hl40
 obtain ⟨cb, fb, zb⟩ := HT.out.b
 go_wp2_with fail
 refine (LQ.out _ HT.out.low).mono ?_
 rintro e w2 ⟨⟨bq, rfl, hlq⟩, hb2⟩
 have HLQ := Lib.hid (fun e => okS_back HQK.out HT.out.low (hlq e))
 have HT := Lib.hid (HT.out.later hb2)
 clear hlq hb2 LQ cb fb zb
 cases bq with
 | false =>
  go_wp2_with fail
  go_ret
  exact ⟨small13_no, HT.out.low⟩
 | true =>
 obtain ⟨⟨_, _, ss, hss, hsl, _⟩, hqa, hqb⟩ := HLQ.out (by first | rfl | trivial)
 dsimp only at hss hqa hqb
 have hul : us.length ≤ 40 := by
  obtain ⟨o2, c2, e2⟩ := hss.form
  simp only [Value.slice.injEq] at e2
  have := HWN.out
  omega
 have RT := Lib.hid (ref5_RightL (.slice a0 l.length c0) (.slice a1 g.length c1) (.slice a2 h.length c2) (.slice a3 qs.length c3) l g h qs w2 (HP.out.below HT.out.low) hl30 hg30 hh30 hq30 HL40.out F (HF.out.below HT.out.low) HFs.out)
 clear HLQ hss hsl
 obtain ⟨ca, fa, za⟩ := HT.out.a
 go_wp2_with fail
 refine RT.out.mono ?_
 rintro e w3 ⟨⟨br, rfl, hri0⟩, hb3⟩
 clear hri0
 have HT := Lib.hid (HT.out.later hb3)
 clear hb3 RT ca fa za
 cases br with
 | false =>
  go_wp2_with fail
  go_ret
  exact ⟨small13_no, HT.out.low⟩
 | true =>
 obtain ⟨ca, fa, za⟩ := HT.out.a
 obtain ⟨cb, fb, zb⟩ := HT.out.b
 go_upto_region 6 with fail
 have HQ : Hid (SlA ((w3.setCell ⟨w.heap.size, 3, none⟩ (.slice (some ⟨w3.heap.size, 0, none⟩) 1 1)).alloc (.cells #[.int .i64 xk, .string x1, .string x2, .string x3, .string x4, .slice wo wn wc] 45)) 6 (.slice (some ⟨w3.heap.size, 0, none⟩) 1 1) 1 [.int .i64 xk, .string x1, .string x2, .string x3, .string x4, .slice wo wn wc]) :=
  Lib.hid (Sl.new _ [.int .i64 xk, .string x1, .string x2, .string x3, .string x4, .slice wo wn wc] 45 6 1 w3.heap.size (by simp [World.setCell]) rfl (by decide)).a
 have HT := Lib.hid ((HT.out.put3 (.slice (some ⟨w3.heap.size, 0, none⟩) 1 1)).alloc (.cells #[.int .i64 xk, .string x1, .string x2, .string x3, .string x4, .slice wo wn wc] 45))
 clear ca fa za cb fb zb
 generalize ha3 : (some ⟨w3.heap.size, 0, none⟩ : Option Addr) = ad at *
 obtain ⟨w4, hw4⟩ : ∃ W, W = (w3.setCell ⟨w.heap.size, 3, none⟩ (.slice ad 1 1)).alloc (.cells #[.int .i64 xk, .string x1, .string x2, .string x3, .string x4, .slice wo wn wc] 45) := ⟨_, rfl⟩
 rw [← hw4] at HQ HT ⊢
 clear hw4 ha3
 have HP1 := Lib.hid (PolAt.only (q := ⟨xk, ⟨x1, x2⟩, ⟨x3, x4⟩, .slice wo wn wc⟩) HP.out HT.out.low HQ.out HQK.out)
 have WF : Hid (WhoF w4 [⟨xk, ⟨x1, x2⟩, ⟨x3, x4⟩, .slice wo wn wc⟩] (fun _ => us)) := Lib.hid (fun x hx => by rw [List.mem_singleton.1 hx]; exact ⟨HU.out.below HT.out.low, hul⟩)
 have RT := Lib.hid (ref5_RightL (.slice a0 l.length c0) (.slice a1 g.length c1) (.slice a2 h.length c2) (.slice ad 1 1) l g h [⟨xk, ⟨x1, x2⟩, ⟨x3, x4⟩, .slice wo wn wc⟩] w4 HP1.out hl30 hg30 hh30 (by simp) HL40.out (fun _ => us) WF.out (fun _ _ => HUZ.out))
 obtain ⟨ca, fa, za⟩ := HT.out.a
 go_wp2_with fail
 refine RT.out.mono ?_
 rintro e w5 ⟨⟨br, rfl, hri⟩, hb5⟩
 have HT := Lib.hid (HT.out.later hb5)
 have HRI := Lib.hid hri
 have HP1 := Lib.hid (HP1.out.below hb5)
 have WF := Lib.hid (WF.out.below hb5)
 clear hb5 hri RT ca fa za HQ
 cases br with
 | false =>
  go_wp2_with fail
  go_ret
  exact ⟨small13_no, HT.out.low⟩
 | true =>
 have hrp := HRI.out.1 (by first | rfl | trivial)
 have HPX := Lib.hid (hrp.polx HP1.out (HTB.out.below HT.out.low) hl30 hg30 hh30 (by simp) WF.out HL40.out)
 have HSI := Lib.hid (show ¬ xk = 6 → (newB (allPrins l g h [⟨xk, ⟨x1, x2⟩, ⟨x3, x4⟩, .slice wo wn wc⟩] fun _ => us)).length ≤ 6 → (newB (allNames l g h [⟨xk, ⟨x1, x2⟩, ⟨x3, x4⟩, .slice wo wn wc⟩])).length ≤ 4 → SimIn w _ _ _ _ l g h qs ⟨xk, ⟨x1, x2⟩, ⟨x3, x4⟩, .slice wo wn wc⟩ us _ _ from
  fun h6 p6 n4 => ⟨HP.out, HU.out, HQK.out, hl30, hg30, hh30, HL40.out, HGH.out, hqa, hqb, hul, HUZ.out, HTB.out, hrp, h6, rfl, rfl, by omega, by omega⟩)
 clear HRI hrp WF HP1
 generalize newB (allPrins l g h [⟨xk, ⟨x1, x2⟩, ⟨x3, x4⟩, .slice wo wn wc⟩] fun _ => us) = PS at *
 generalize newB (allNames l g h [⟨xk, ⟨x1, x2⟩, ⟨x3, x4⟩, .slice wo wn wc⟩]) = NS at *
 obtain ⟨ca, fa, za⟩ := HT.out.a
 go_wp2_with fail
 refine (ref5_PrinsX HPX.out).mono ?_
 rintro e w6 ⟨vp, rfl, ho6, hb6⟩
 obtain ⟨pa, pc, rfl⟩ := own_form ho6
 have HT := Lib.hid (HT.out.later hb6)
 have HPX := Lib.hid (HPX.out.below hb6)
 clear ho6 hb6 ca fa za
 by_cases h6 : PS.length ≤ 6
 ·have d6 : decide ((PS.length : Int) ≤ 6) = true := by rw [decide_eq_true_iff]; omega
  obtain ⟨ca, fa, za⟩ := HT.out.a
  go_wp2_with fail
  refine (ref5_NamesX HPX.out).mono ?_
  rintro e w7 ⟨vn, rfl, ho7, hb7⟩
  obtain ⟨na, nc, rfl⟩ := own_form ho7
  have HT := Lib.hid (HT.out.later hb7)
  clear ho7 hb7 ca fa za
  by_cases h4 : NS.length ≤ 4
  ·have d4 : decide ((NS.length : Int) ≤ 4) = true := by rw [decide_eq_true_iff]; omega
   have HS := Lib.hid (show SmallQ w (.slice a0 l.length c0) (.slice a1 g.length c1) (.slice a2 h.length c2) (.slice a3 qs.length c3) l g h qs ⟨xk, ⟨x1, x2⟩, ⟨x3, x4⟩, .slice wo wn wc⟩ us (.returned (.bool true)) from ⟨true, rfl, fun _ => ⟨PS, NS, (fun k6 => HSI.out k6 h6 h4), h6, h4⟩⟩)
   go_wp2_with fail
   go_ret
   exact ⟨HS.out, HT.out.low⟩
  ·have d4 : decide ((NS.length : Int) ≤ 4) = false := by rw [decide_eq_false_iff_not]; omega
   go_wp2_with fail
   go_ret
   exact ⟨small13_no, HT.out.low⟩
 ·have d6 : decide ((PS.length : Int) ≤ 6) = false := by rw [decide_eq_false_iff_not]; omega
  go_wp2_with fail
  go_ret
  exact ⟨small13_no, HT.out.low⟩
end Go.Proofs.YtcmdhfccdkjenaaGreatDoor
namespace Go.Proofs.YtcmdhfccdkjenaaGreatDoor
open Go.RowKit Go.Shelf

end Go.Proofs.YtcmdhfccdkjenaaGreatDoor
namespace Go.Proofs.YtcmdhfccdkjenaaGreatDoor
open Go.RowKit Go.Shelf

end Go.Proofs.YtcmdhfccdkjenaaGreatDoor
namespace Go.Proofs.YtcmdhfccdkjenaaGreatDoor
open Go.RowKit Go.Shelf

end Go.Proofs.YtcmdhfccdkjenaaGreatDoor
namespace Go.Proofs.YtcmdhfccdkjenaaGreatDoor
open Go.RowKit Go.Shelf

theorem inside_iff {a b : List ByteArray} : insideB a b = true ↔ ∀ x ∈ a, x ∈ b := by
 unfold insideB
 rw [List.all_eq_true]
 exact ⟨fun h x hx => (hasB_mem b x).1 (h x hx), fun h x hx => (hasB_mem b x).2 (h x hx)⟩
section
variable {M : Rl → List ByteArray} {q : Qv} {us : List ByteArray}
end
theorem members_same {l : List St} {ps es : List Pr} (h : LeastS l (fun r x => (r, x) ∈ ps)) (g : LeastS l (fun r x => (r, x) ∈ es)) : membersP ps = membersP es := by
 funext r
 exact asc_uniqueB _ _ (membersP_asc _ _) (membersP_asc _ _) (fun y => ⟨fun hy => inside_iff.1 (members_mono h g (fun _ h => h) r) y hy, fun hy => inside_iff.1 (members_mono g h (fun _ h => h) r) y hy⟩)
section
variable {w : World} {v0 v1 v2 v3 : Value} {l c : List St} {g h : List Rl} {qs : List Qv} {q : Qv} {us PS NS : List ByteArray}
theorem SimIn.inAB (P : SimIn w v0 v1 v2 v3 l g h qs q us PS NS) : ∀ s ∈ l, InAB PS NS s := by
 intro s hs
 have := stmt_inAB (g := g) (h := h) (qs := [q]) (F := fun _ => us) hs
 rw [P.eP, P.eN] at this
 exact this
theorem SimIn.decFew (P : SimIn w v0 v1 v2 v3 l g h qs q us PS NS) (h6 : PS.length ≤ 6) (h4 : NS.length ≤ 4) : ∀ ps : List Pr, ps.Nodup → SoundS (decS q.k l g h PS NS) ps → ps.length ≤ 900 := by
 have hpx := putX_len PS
 have hfew : (putX PS).length * NS.length * (putX PS).length ≤ 7 * 4 * 7 := Nat.mul_le_mul (Nat.mul_le_mul (by omega) (by omega)) (by omega)
 unfold decS
 split
 ·exact fun ps hn hs => Nat.le_trans (sound_bound (n := 30) (Nat.le_trans (minS_len l h) P.hl) ps hn hs) (by decide)
 ·exact fun ps hn hs => Nat.le_trans (sound_few (maxS_in P.inAB) ps hn hs) (by omega)
end
end Go.Proofs.YtcmdhfccdkjenaaGreatDoor
