/- The statement SimpleDecides: the walk of the law (printed by gen_law13d.py). Roles and statements among a law's arguments: opened to data, and read again in a later world. Rows of statements among a law's arguments: opened. Policies among a law's arguments: opened. What the proofs of tied cards over math/bits.deBruijn64tab share: the world of the witness, the table's cells, roles and queries opened. -/
import Derived.Test.YtcmdhfccdkjenaaGreatDoorPart20
import Derived.Test.YtcmdhfccdkjenaaGreatDoorPart21
import Derived.Test.YtcmdhfccdkjenaaGreatDoorPart5
import Derived.ProofKit
import Derived.OpenShut
import Derived.ChangeMaps5
import Derived.Deep.Strs
import Derived.Test.YtcmdhfccdkjenaaGreatDoorPart3
import Derived.Deep.Slices
import Derived.Test.YtcmdhfccdkjenaaGreatDoorCards
import Derived.Test.YtcmdhfccdkjenaaGreatDoorTie
import Derived.Test.YtcmdhfccdkjenaaGreatDoorPart13
import Derived.Lay
import Derived.Deep.DeepHandedRow
import Derived.Lib.LaidTab
import Derived.Shelf.Strings.Shaped
import Derived.HandedShaped
namespace Go.Proofs.YtcmdhfccdkjenaaGreatDoor
open Go.RowKit Go.Shelf

theorem ref4_SameSelf (q : Qv) (us : List ByteArray) (w : World) (hu : SlA w 1 q.w us.length (strs us)) :
  Calls Tryz.prog 30 #[qv q, qv q] w fun e w' => e = .returned (.bool true) ∧ Below w.heap.size w w' := by
 have HU := Lib.hid hu
 obtain ⟨xk, ⟨x1, x2⟩, ⟨x3, x4⟩, wv⟩ := q
 obtain ⟨wo, wc, e1⟩ := hu.form
 dsimp only at e1 HU
 subst e1
 have HB := Lib.hid (show Below w.heap.size w ((w.alloc (.cells #[.int .i64 xk, .string x1, .string x2, .string x3, .string x4, .slice wo us.length wc] 45)).alloc (.cells #[.int .i64 xk, .string x1, .string x2, .string x3, .string x4, .slice wo us.length wc] 45)) from ((Below.refl _ _).alloc (Nat.le_refl _) _).alloc (by simp) _)
 have hEq := role_eql
 have s1 : eqRl (⟨x1, x2⟩ : Rl) ⟨x1, x2⟩ = true := by simp [eqRl]
 have s2 : eqRl (⟨x3, x4⟩ : Rl) ⟨x3, x4⟩ = true := by simp [eqRl]
 clear hu
 go_enter Tryz.func30, Tryz.ntmps30
 go_wp2_with fail
 refine (ref1_SameB _ _ us _ (HU.out.below HB.out) (HU.out.below HB.out)).mono ?_
 rintro e w1 ⟨rfl, hb⟩
 have HB1 := Lib.hid (HB.out.trans (hb.mono HB.out.size))
 clear hb
 go_wp2_with fail
 go_ret
 exact ⟨rfl, HB1.out⟩
theorem sim_OnlyB (v0 v1 v2 v3 : Value) (l : List St) (g h : List Rl) (qs : List Qv) (q : Qv) (w : World) (hp : PolAt w v0 v1 v2 v3 l g h qs) :
  Calls Tryz.prog 29 #[pv v0 v1 v2 v3, qv q] w fun e w' => e = .returned (pv v0 v1 v2 (.slice (some ⟨w.heap.size + 1 + 1 + 1, 0, none⟩) 1 1)) ∧ Blk w' (w.heap.size + 1 + 1 + 1) #[.int .i64 q.k, .string q.a.o, .string q.a.n, .string q.b.o, .string q.b.n, q.w] ∧ Below w.heap.size w w' := by
 obtain ⟨a0, c0, rfl⟩ := hp.rs.form
 obtain ⟨a1, c1, rfl⟩ := hp.rg.form
 obtain ⟨a2, c2, rfl⟩ := hp.rh.form
 obtain ⟨a3, c3, rfl⟩ := hp.rq.form
 clear hp
 obtain ⟨xk, ⟨x1, x2⟩, ⟨x3, x4⟩, wv⟩ := q
 go_enter Tryz.func29, Tryz.ntmps29
 go_wp2
 refine bodyPost_ret (v := pv (.slice a0 l.length c0) (.slice a1 g.length c1) (.slice a2 h.length c2) (.slice (some ⟨w.heap.size + 1 + 1 + 1, 0, none⟩) 1 1)) (by simp [results, Tryz.results29, go_sem]) rfl ?_
 refine ⟨rfl, ?_, ((((Below.refl _ _).alloc (Nat.le_refl _) _).alloc (by simp) _).alloc (by simp; omega) _).alloc (by simp; omega) _⟩
 have := Blk.new (((w.alloc (.cells #[.slice a0 l.length c0, .slice a1 g.length c1, .slice a2 h.length c2, .slice (some ⟨w.heap.size + 1 + 1 + 1, 0, none⟩) 1 1] 26)).alloc (.cells #[.int .i64 xk, .string x1, .string x2, .string x3, .string x4, wv] 45)).alloc (.cells #[.slice a0 l.length c0, .slice a1 g.length c1, .slice a2 h.length c2, .slice (some ⟨w.heap.size + 1 + 1 + 1, 0, none⟩) 1 1] 26)) #[.int .i64 xk, .string x1, .string x2, .string x3, .string x4, wv] 45
 simpa using this
theorem Blk.row {w : World} {g : Nat} {cs : Array Value} (h : Blk w g cs) (size n : Nat) (hl : cs.size = n * size) (hm : n ≤ maxLen) : Sl w size (.slice (some ⟨g, 0, none⟩) n n) n cs.toList :=
 ⟨by simpa using hl, hm, .inr ⟨g, 0, n, rfl, Nat.le_refl _, hm, h.2.2, fun j u hu => by rw [Nat.zero_add, h.1]; simpa using hu⟩⟩
def DecF (R : Prop) (l : List St) (g h : List Rl) (q : Qv) (us PS NS : List ByteArray) (e : Ending) (w' : World) : Prop :=
 ∃ (a : Option Addr) (c st : Nat) (k er : Int) (T : List St), e = .returned (.tuple #[.agg #[.int .i64 k, .slice a T.length c, .int .i64 st, .int .i64 0], .int .i64 er]) ∧ SlA w' 9 (.slice a T.length c) T.length (T.flatMap St.cells) ∧
  (R → er = 0 ∧ ∃ ps : List Pr, LeastS (decS q.k l g h PS NS) (fun r x => (r, x) ∈ ps) ∧ k = kindV (univB q.k) (satQ (membersP ps) q us) ∧ T = if univB q.k = satQ (membersP ps) q us then [] else decS q.k l g h PS NS) ∧ (¬ R → er = 6 ∧ k = 0)
theorem sim_DecideF {v0 v1 v2 v3 : Value} {l : List St} {g h : List Rl} {qs : List Qv} {q : Qv} {us : List ByteArray} {w : World} (P : SimQ w v0 v1 v2 v3 l g h qs q us) (hT : TB w) :
  Calls Tryz.prog 28 #[pv v0 v1 v2 v3, qv q] w fun e w' => DecF (RightP l g h [q] (fun _ => us) ∧ ¬ q.k = 6) l g h q us (newB (allPrins l g h [q] (fun _ => us))) (newB (allNames l g h [q])) e w' ∧ Below w.heap.size w w' := by
 by_cases hR : RightP l g h [q] (fun _ => us) ∧ ¬ q.k = 6
 ·refine (sim_Decide (P.simIn hT hR.1 hR.2)).mono ?_
  rintro e w' ⟨⟨a, c, st, T, ps, rfl, hps, hS, hTe⟩, hb⟩
  exact ⟨⟨a, c, st, _, 0, T, rfl, hS, fun _ => ⟨rfl, ps, hps, rfl, hTe⟩, fun hn => absurd hR hn⟩, hb⟩
 ·refine (sim_DecideNo v0 v1 v2 v3 l g h qs q us w P hR).mono ?_
  rintro e w' ⟨rfl, hb⟩
  exact ⟨⟨none, 0, 0, 0, 6, [], rfl, (Sl.nil _ _).a, fun hr => absurd hr hR, fun _ => ⟨rfl, rfl⟩⟩, hb⟩
set_option maxRecDepth 100000 in
set_option maxHeartbeats 16000000 in
theorem law13_SimpleDecides (v0 v1 v2 v3 : Value) (l : List St) (g h : List Rl) (qs : List Qv) (q : Qv) (w : World) (hp : PolAt w v0 v1 v2 v3 l g h qs) (hq : q.ok w) (hT : TB w) :
  Calls Tryz.prog 4 #[pv v0 v1 v2 v3, qv q] w fun e w' => e = .returned (.bool true) ∧ Below w.heap.size w w' := by
 have HL := Lib.hid (fun W hb => law13_lives W (hT.below (w' := W) hb))
 have LP := Lib.hid (fun W hb => law5_LightS v0 v1 v2 v3 l g h qs W (hp.below (w' := W) hb))
 have LQ := Lib.hid (fun W (hb : Below w.heap.size w W) => law4_LightS q W (hq.below hb))
 have HP := Lib.hid hp
 have HTB := Lib.hid hT
 have HQK := Lib.hid hq
 obtain ⟨us, hu, huz⟩ := hq.2.2
 have SM := Lib.hid (fun W hb => law13_Small v0 v1 v2 v3 l g h qs q us W (hp.below (w' := W) hb) (hq.below hb) (hu.below hb) huz (hT.below hb))
 have HU := Lib.hid hu
 have HUZ := Lib.hid huz
 obtain ⟨a0, c0, rfl⟩ := hp.rs.form
 obtain ⟨a1, c1, rfl⟩ := hp.rg.form
 obtain ⟨a2, c2, rfl⟩ := hp.rh.form
 obtain ⟨a3, c3, rfl⟩ := hp.rq.form
 obtain ⟨xk, ⟨x1, x2⟩, ⟨x3, x4⟩, wv⟩ := q
 obtain ⟨wo, wc, e1⟩ := hu.form
 dsimp only at e1 HU
 obtain ⟨wn, hwn⟩ : ∃ n, n = us.length := ⟨_, rfl⟩
 rw [← hwn] at e1
 subst e1
 have HWN := Lib.hid hwn
 clear hp hT hq hu huz hwn
 have HT := Lib.hid (show TwoAt w #[.slice a0 l.length c0, .slice a1 g.length c1, .slice a2 h.length c2, .slice a3 qs.length c3] #[.int .i64 xk, .string x1, .string x2, .string x3, .string x4, .slice wo wn wc] ((w.alloc (.cells #[.slice a0 l.length c0, .slice a1 g.length c1, .slice a2 h.length c2, .slice a3 qs.length c3] 26)).alloc (.cells #[.int .i64 xk, .string x1, .string x2, .string x3, .string x4, .slice wo wn wc] 45))
  from ⟨(Blk.new w _ _).alloc _, (by have := Blk.new (w.alloc (.cells #[.slice a0 l.length c0, .slice a1 g.length c1, .slice a2 h.length c2, .slice a3 qs.length c3] 26)) #[.int .i64 xk, .string x1, .string x2, .string x3, .string x4, .slice wo wn wc] 45; simpa using this), ((Below.refl _ _).alloc (Nat.le_refl _) _).alloc (by simp) _⟩)
 go_enter Tryz.func4, Tryz.ntmps4
 go_upto_region 1 with fail
 obtain ⟨wk, hwk⟩ : ∃ W, W = ((w.alloc (.cells #[.slice a0 l.length c0, .slice a1 g.length c1, .slice a2 h.length c2, .slice a3 qs.length c3] 26)).alloc (.cells #[.int .i64 xk, .string x1, .string x2, .string x3, .string x4, .slice wo wn wc] 45)) := ⟨_, rfl⟩
 rw [← hwk] at HT ⊢
 clear hwk
 obtain ⟨ca, fa, za⟩ := HT.out.a
 go_wp2_with fail
 refine (LP.out _ HT.out.low).mono ?_
 rintro e w1 ⟨⟨bp, rfl, hlp⟩, hb1⟩
 have HT := Lib.hid (HT.out.later hb1)
 have HLP := Lib.hid hlp
 clear hlp hb1 LP ca fa za
 cases bp with
 | false =>
  go_wp2_with fail
  refine (HL.out _ HT.out.low).mono ?_
  rintro e wl ⟨rfl, hbl⟩
  have TL := Lib.hid (HT.out.later hbl)
  clear hbl
  go_wp2
  go_ret
  exact ⟨rfl, TL.out.low⟩
 | true =>
 obtain ⟨⟨hl30, hg30, hh30, hq30, hl40, _⟩, hgh⟩ := HLP.out (by first | rfl | trivial)
 have HL40 := Lib.hid hl40
 have HGH := Lib.hid hgh
 clear HLP hgh hl40
 obtain ⟨cb, fb, zb⟩ := HT.out.b
 go_wp2_with fail
 refine (LQ.out _ HT.out.low).mono ?_
 rintro e w2 ⟨⟨bq, rfl, hlq⟩, hb2⟩
 have HLQ := Lib.hid (fun e => okS_back HQK.out HT.out.low (hlq e))
 have HT := Lib.hid (HT.out.later hb2)
 clear hlq hb2 LQ cb fb zb
 cases bq with
 | false =>
  go_wp2_with fail
  refine (HL.out _ HT.out.low).mono ?_
  rintro e wl ⟨rfl, hbl⟩
  have TL := Lib.hid (HT.out.later hbl)
  clear hbl
  go_wp2
  go_ret
  exact ⟨rfl, TL.out.low⟩
 | true =>
 obtain ⟨⟨_, _, ss, hss, hsl, _⟩, hqa, hqb⟩ := HLQ.out (by first | rfl | trivial)
 dsimp only at hss hqa hqb
 have hul : us.length ≤ 40 := by
  obtain ⟨o2, c2, e2⟩ := hss.form
  simp only [Value.slice.injEq] at e2
  have := HWN.out
  omega
 have HSQ := Lib.hid (show SimQ w (.slice a0 l.length c0) (.slice a1 g.length c1) (.slice a2 h.length c2) (.slice a3 qs.length c3) l g h qs ⟨xk, ⟨x1, x2⟩, ⟨x3, x4⟩, .slice wo wn wc⟩ us from ⟨HP.out, HU.out, HQK.out, hl30, hg30, hh30, HL40.out, HGH.out, hqa, hqb, hul, HUZ.out⟩)
 clear HLQ hss hsl HL40 HGH hqa hqb HWN
 obtain ⟨ca, fa, za⟩ := HT.out.a
 obtain ⟨cb, fb, zb⟩ := HT.out.b
 go_wp2_with fail
 refine (sim_DecideF (HSQ.out.below HT.out.low) (HTB.out.below HT.out.low)).mono ?_
 rintro e w4 ⟨⟨va, vc, st, k, er, T, rfl, hvs, hR, hN⟩, hb4⟩
 have HT := Lib.hid (HT.out.later hb4)
 have HR := Lib.hid hR
 have HN := Lib.hid hN
 have HVS := Lib.hid hvs
 clear hb4 hvs hR hN ca fa za cb fb zb
 obtain ⟨ca, fa, za⟩ := HT.out.a
 obtain ⟨cb, fb, zb⟩ := HT.out.b
 go_upto_region 4 with fail
 have hnw : Below w4.heap.size w4 (w4.alloc (.cells #[.int .i64 k, .slice va T.length vc, .int .i64 st, .int .i64 0] 48)) := (Below.refl _ _).alloc (Nat.le_refl _) _
 have HX := Lib.hid (Blk.new w4 #[.int .i64 k, .slice va T.length vc, .int .i64 st, .int .i64 0] 48)
 have HT := Lib.hid (HT.out.later hnw)
 have HVS := Lib.hid (HVS.out.below hnw)
 clear hnw ca fa za cb fb zb
 obtain ⟨b5, hb5⟩ : ∃ n, n = w4.heap.size := ⟨_, rfl⟩
 obtain ⟨w5, hw5⟩ : ∃ W, W = w4.alloc (.cells #[.int .i64 k, .slice va T.length vc, .int .i64 st, .int .i64 0] 48) := ⟨_, rfl⟩
 rw [← hw5] at HX HT HVS ⊢
 rw [← hb5] at HX ⊢
 clear hw5 hb5
 obtain ⟨ca, fa, za⟩ := HT.out.a
 obtain ⟨cb, fb, zb⟩ := HT.out.b
 go_wp2_with fail
 refine (sim_OnlyB (.slice a0 l.length c0) (.slice a1 g.length c1) (.slice a2 h.length c2) (.slice a3 qs.length c3) l g h qs ⟨xk, ⟨x1, x2⟩, ⟨x3, x4⟩, .slice wo wn wc⟩ w5 (HP.out.below HT.out.low)).mono ?_
 rintro e w6 ⟨rfl, hy, hb6⟩
 have HX := Lib.hid (HX.out.below hb6)
 have HT := Lib.hid (HT.out.later hb6)
 have HVS := Lib.hid (HVS.out.below hb6)
 have HY := Lib.hid hy
 clear hy hb6 ca fa za cb fb zb
 obtain ⟨b9, hb9⟩ : ∃ n, n = w5.heap.size + 1 + 1 + 1 := ⟨_, rfl⟩
 rw [← hb9] at HY ⊢
 clear hb9
 go_upto_region 5 with fail
 have hnw : Below w6.heap.size w6 (w6.alloc (.cells #[.slice a0 l.length c0, .slice a1 g.length c1, .slice a2 h.length c2, .slice (some ⟨b9, 0, none⟩) 1 1] 26)) := (Below.refl _ _).alloc (Nat.le_refl _) _
 have HO := Lib.hid (Blk.new w6 #[.slice a0 l.length c0, .slice a1 g.length c1, .slice a2 h.length c2, .slice (some ⟨b9, 0, none⟩) 1 1] 26)
 have HX := Lib.hid (HX.out.below hnw)
 have HY := Lib.hid (HY.out.below hnw)
 have HT := Lib.hid (HT.out.later hnw)
 have HVS := Lib.hid (HVS.out.below hnw)
 clear hnw
 obtain ⟨b7, hb7⟩ : ∃ n, n = w6.heap.size := ⟨_, rfl⟩
 obtain ⟨w7, hw7⟩ : ∃ W, W = w6.alloc (.cells #[.slice a0 l.length c0, .slice a1 g.length c1, .slice a2 h.length c2, .slice (some ⟨b9, 0, none⟩) 1 1] 26) := ⟨_, rfl⟩
 rw [← hw7] at HX HY HO HT HVS ⊢
 rw [← hb7] at HO ⊢
 clear hw7 hb7
 have HYR := Lib.hid (show Sl w7 6 (.slice (some ⟨b9, 0, none⟩) 1 1) 1 [.int .i64 xk, .string x1, .string x2, .string x3, .string x4, .slice wo wn wc] from HY.out.row 6 1 rfl (by decide))
 have RO := Lib.hid (fun W (hb : Below w7.heap.size w7 W) (ht : Below w.heap.size w W) => ref5_RightL (.slice a0 l.length c0) (.slice a1 g.length c1) (.slice a2 h.length c2) (.slice (some ⟨b9, 0, none⟩) 1 1) l g h [⟨xk, ⟨x1, x2⟩, ⟨x3, x4⟩, .slice wo wn wc⟩] W (PolAt.only HP.out ht (HYR.out.below hb).a HQK.out) hl30 hg30 hh30 (by simp) HSQ.out.l40 (fun _ => us) (HSQ.out.whoF ht) (fun _ _ => HSQ.out.uz))
 have HB7 := Lib.hid (Below.refl w7.heap.size w7)
 clear HYR
 by_cases hRR : RightP l g h [⟨xk, ⟨x1, x2⟩, ⟨x3, x4⟩, .slice wo wn wc⟩] (fun _ => us) ∧ ¬ xk = 6
 ·have hrq : rightQ ⟨xk, ⟨x1, x2⟩, ⟨x3, x4⟩, .slice wo wn wc⟩ us = true := hRR.1.2.2.1 _ (List.mem_singleton.2 rfl)
  obtain ⟨rfl, ps, hps, hk, hTe⟩ := HR.out hRR
  have k6 := hRR.2
  have HRP := Lib.hid hRR.1
  have HPS := Lib.hid hps
  have HKV := Lib.hid hk
  have HTE := Lib.hid hTe
  clear hRR hps hk hTe HR HN
  have d6 : (xk == 6) = false := by simp [k6]
  have d6n : (xk != 6) = true := by simp [k6]
  have HT' := HT.out.drew
  have hd := below_drew (Below.refl w7.heap.size w7)
  have HXd := Lib.hid (HX.out.below hd)
  have HOd := Lib.hid (HO.out.below hd)
  have HYd := Lib.hid (HY.out.below hd)
  have HVd := Lib.hid (HVS.out.below hd)
  have HBd := Lib.hid hd
  have IS := Lib.hid (show (rightQ ⟨xk, ⟨x1, x2⟩, ⟨x3, x4⟩, .slice wo wn wc⟩ us && !decide (xk = 6)) = true by rw [hrq]; simp [k6])
  have HRQ := Lib.hid hrq
  clear hrq hd HX HO HY HVS HB7
  refine wp_region_held_drew (S := (fun W => (∀ o, W.cell? ⟨w.heap.size + 1, o, none⟩ = (#[.int .i64 xk, .string x1, .string x2, .string x3, .string x4, .slice wo wn wc] : Array Value)[o]?) ∧ (∀ o, W.cell? ⟨b7, o, none⟩ = (#[.slice a0 l.length c0, .slice a1 g.length c1, .slice a2 h.length c2, .slice (some ⟨b9, 0, none⟩) 1 1] : Array Value)[o]?) ∧ ∀ o, W.cell? ⟨b9, o, none⟩ = (#[.int .i64 xk, .string x1, .string x2, .string x3, .string x4, .slice wo wn wc] : Array Value)[o]?)) (by kernel_rfl) ⟨HT'.b.1, HOd.out.1, HYd.out.1⟩ (fun hHeld => ?_)
  obtain ⟨wj, hwj⟩ : ∃ W, W = w7.drew := ⟨_, rfl⟩
  rw [← hwj] at HT' HXd HOd HYd HVd HBd hHeld ⊢
  clear hwj HT
  have HT := HT'
  have HX := HXd
  have HO := HOd
  have HY := HYd
  have HVS := HVd
  clear HT' HXd HOd HYd HVd
  (refine hyes 0 ?_); (refine hyes 1 ?_); (refine hyes 2 ?_); (refine hyes 3 ?_); (refine hyes 4 ?_); (refine hyes 5 ?_); (refine hyes 6 ?_); (refine hyes 7 ?_); (refine hyes 8 ?_); (refine hyes 9 ?_); (try simp only [Act.put, List.setIfInBounds_toArray, List.set])
  (refine held_call 10 rfl (by kernel_rfl) (fun K hK => ?_); go_simp)
  go_at_call 30; refine (ref4_SameSelf ⟨xk, ⟨x1, x2⟩, ⟨x3, x4⟩, .slice wo wn wc⟩ us _ (HSQ.out.hu.below HT.low)).mono ?_; rintro e wz10 ⟨rfl, hbq⟩
  have HBd := Lib.hid (HBd.out.trans (hbq.mono HBd.out.size))
  have HT := HT.later hbq
  have HX := Lib.hid (HX.out.below hbq)
  have HO := Lib.hid (HO.out.below hbq)
  have HY := Lib.hid (HY.out.below hbq)
  have HVS := Lib.hid (HVS.out.below hbq)
  clear hbq
  (refine hK.out _ _ (⟨HT.b.1, HO.out.1, HY.out.1⟩) (fun hHeld => ?_); clear hK K; (try simp only [Act.put, List.setIfInBounds_toArray, List.set]))
  (refine hyes 11 ?_); (refine hyes 12 ?_); (refine hyes 13 ?_); (refine hyes 14 ?_); (refine hyes 16 ?_); (try simp only [Act.put, List.setIfInBounds_toArray, List.set])
  (refine held_call 15 rfl (by kernel_rfl) (fun K hK => ?_); go_simp)
  go_at_call 31; refine (simq_Is HSQ.out HT.low).mono ?_; rintro e wz15 ⟨rfl, hbq⟩; rw [IS.out]
  have HBd := Lib.hid (HBd.out.trans (hbq.mono HBd.out.size))
  have HT := HT.later hbq
  have HX := Lib.hid (HX.out.below hbq)
  have HO := Lib.hid (HO.out.below hbq)
  have HY := Lib.hid (HY.out.below hbq)
  have HVS := Lib.hid (HVS.out.below hbq)
  clear hbq
  (refine hK.out _ _ (⟨HT.b.1, HO.out.1, HY.out.1⟩) (fun hHeld => ?_); clear hK K; (try simp only [Act.put, List.setIfInBounds_toArray, List.set]))
  (refine held_call 17 rfl (by kernel_rfl) (fun K hK => ?_); go_simp)
  go_at_call 32; refine (ref4_RightL ⟨xk, ⟨x1, x2⟩, ⟨x3, x4⟩, .slice wo wn wc⟩ us _ (HSQ.out.qok.1) (HSQ.out.qok.2.1) (HSQ.out.hu.below HT.low) HSQ.out.uz).mono ?_; rintro e wz17 ⟨rfl, hbq⟩; rw [HRQ.out]
  have HBd := Lib.hid (HBd.out.trans (hbq.mono HBd.out.size))
  have HT := HT.later hbq
  have HX := Lib.hid (HX.out.below hbq)
  have HO := Lib.hid (HO.out.below hbq)
  have HY := Lib.hid (HY.out.below hbq)
  have HVS := Lib.hid (HVS.out.below hbq)
  clear hbq
  (refine hK.out _ _ (⟨HT.b.1, HO.out.1, HY.out.1⟩) (fun hHeld => ?_); clear hK K; (try simp only [Act.put, List.setIfInBounds_toArray, List.set]))
  (refine hyes 18 ?_); (refine hyes 19 ?_); (refine hyes 20 ?_); (refine hyes 21 ?_); (refine hyes 22 ?_); (refine hyes 23 ?_); (refine hyes 24 ?_); (try simp only [Act.put, List.setIfInBounds_toArray, List.set])
  refine wpAnyH_done (by kernel_rfl) ?_ _
  have HTr := Lib.hid HT
  clear HT
  have HT := HTr
  clear HTr IS
  obtain ⟨ca, fa, za⟩ := HT.out.a
  obtain ⟨cb, fb, zb⟩ := HT.out.b
  go_wp2_with fail
  refine (SM.out _ HT.out.low).mono ?_
  rintro e w8 ⟨⟨bs, rfl, hs⟩, hb8⟩
  have HS := Lib.hid (show _ from hs)
  have HB8 := Lib.hid hb8
  have HT := Lib.hid (HT.out.later hb8)
  have HX := Lib.hid (HX.out.below hb8)
  have HO := Lib.hid (HO.out.below hb8)
  have HVS := Lib.hid (HVS.out.below hb8)
  have HBd := Lib.hid (HBd.out.trans (hb8.mono HBd.out.size))
  clear hb8 hs ca fa za cb fb zb
  cases bs with
  | false =>
   obtain ⟨co, fo, zo⟩ := HO.out
   go_wp2_with fail
   refine (RO.out _ HBd.out HT.out.low).mono ?_
   rintro e w10 ⟨⟨br, rfl, hri⟩, hb10⟩
   have HRI := Lib.hid hri
   have HT := Lib.hid (HT.out.later hb10)
   have HX := Lib.hid (HX.out.below hb10)
   have HO := Lib.hid (HO.out.below hb10)
   have HVS := Lib.hid (HVS.out.below hb10)
   have HBd := Lib.hid (HBd.out.trans (hb10.mono HBd.out.size))
   clear hb10 hri co fo zo
   obtain ⟨cx, fx, zx⟩ := HX.out
   obtain ⟨cb, fb, zb⟩ := HT.out.b
   cases br with
   | false =>
    exact absurd (HRI.out.2 HRP.out) (by simp)
   | true =>
    go_wp2_with fail
    refine (HL.out _ HT.out.low).mono ?_
    rintro e wl ⟨rfl, hbl⟩
    have TL := Lib.hid (HT.out.later hbl)
    clear hbl
    go_wp2
    go_ret
    exact ⟨rfl, TL.out.low⟩
  | true =>
   obtain ⟨PS, NS, hsi, p6, n4⟩ := HS.out (by first | rfl | trivial)
   have hsi := hsi k6
   have hM := HPS.out
   have hT3 := HTE.out
   have eP := hsi.eP
   have eN := hsi.eN
   subst eP eN
   have HSI := Lib.hid (hsi.below HB8.out)
   have HP6 := Lib.hid p6
   have HN4 := Lib.hid n4
   clear hsi p6 n4 hM hT3
   obtain ⟨ca, fa, za⟩ := HT.out.a
   obtain ⟨cb, fb, zb⟩ := HT.out.b
   go_wp2_with fail
   refine (ref13_Decide HSI.out HP6.out HN4.out).mono ?_
   rintro e w11 ⟨⟨ra, rc, T2, ps2, rfl, hps2, hs2, hT2⟩, hb11⟩
   rw [members_same hps2 HPS.out] at hT2 ⊢
   obtain rfl := hT2.trans HTE.out.symm
   dsimp only
   rw [← HKV.out]
   have HS2 := Lib.hid hs2
   have HT := Lib.hid (HT.out.later hb11)
   have HX := Lib.hid (HX.out.below hb11)
   have HO := Lib.hid (HO.out.below hb11)
   have HVS := Lib.hid (HVS.out.below hb11)
   have HBd := Lib.hid (HBd.out.trans (hb11.mono HBd.out.size))
   have HS2 := HS2
   clear hb11 hs2 hps2 hT2 HKV HTE HPS HSI HP6 HN4 ca fa za cb fb zb HS HRP
   have dk : (k == k) = true := by simp
   have d0 : decide ((0 : Int) ≤ (st : Int)) = true := decide_eq_true (by omega)
   obtain ⟨cx, fx, zx⟩ := HX.out
   go_wp2_with fail
   refine (ref3_SameT _ _ T2 _ HVS.out HS2.out).mono ?_
   rintro e w12 ⟨rfl, hb12⟩
   have HT := Lib.hid (HT.out.later hb12)
   have HX := Lib.hid (HX.out.below hb12)
   have HO := Lib.hid (HO.out.below hb12)
   have HVS := Lib.hid (HVS.out.below hb12)
   have HBd := Lib.hid (HBd.out.trans (hb12.mono HBd.out.size))
   clear hb12 cx fx zx
   obtain ⟨cx, fx, zx⟩ := HX.out
   go_wp2_with fail
   refine (sim_Holds k st 0 (.slice va T2.length vc) ⟨_, _, _, rfl⟩ _).mono ?_
   rintro e w13 ⟨rfl, hb13⟩
   have HT := Lib.hid (HT.out.later hb13)
   have HX := Lib.hid (HX.out.below hb13)
   have HO := Lib.hid (HO.out.below hb13)
   have HVS := Lib.hid (HVS.out.below hb13)
   have HBd := Lib.hid (HBd.out.trans (hb13.mono HBd.out.size))
   clear hb13 cx fx zx dk d0
   by_cases k1 : k = 1
   ·subst k1
    go_wp2_with fail
    refine (HL.out _ HT.out.low).mono ?_
    rintro e wl ⟨rfl, hbl⟩
    have TL := Lib.hid (HT.out.later hbl)
    clear hbl
    go_wp2
    go_ret
    exact ⟨rfl, TL.out.low⟩
   by_cases k3 : k = 3
   ·subst k3
    go_wp2_with fail
    refine (HL.out _ HT.out.low).mono ?_
    rintro e wl ⟨rfl, hbl⟩
    have TL := Lib.hid (HT.out.later hbl)
    clear hbl
    go_wp2
    go_ret
    exact ⟨rfl, TL.out.low⟩
   rw [decide_eq_false k1, decide_eq_false k3]
   have e1 : (k == 1) = false := by simp [k1]
   have e3 : (k == 3) = false := by simp [k3]
   clear k1 k3
   go_wp2_with fail
   refine (HL.out _ HT.out.low).mono ?_
   rintro e wl ⟨rfl, hbl⟩
   have TL := Lib.hid (HT.out.later hbl)
   clear hbl
   go_wp2
   go_ret
   exact ⟨rfl, TL.out.low⟩
 ·obtain ⟨rfl, rfl⟩ := HN.out hRR
  have NR := Lib.hid hRR
  clear hRR HR HN
  cases hrq : rightQ ⟨xk, ⟨x1, x2⟩, ⟨x3, x4⟩, .slice wo wn wc⟩ us with
  | false =>
   have HT' := HT.out.drew
   have hd := below_drew (Below.refl w7.heap.size w7)
   have HXd := Lib.hid (HX.out.below hd)
   have HOd := Lib.hid (HO.out.below hd)
   have HYd := Lib.hid (HY.out.below hd)
   have HVd := Lib.hid (HVS.out.below hd)
   have HBd := Lib.hid hd
   have IS := Lib.hid (show (rightQ ⟨xk, ⟨x1, x2⟩, ⟨x3, x4⟩, .slice wo wn wc⟩ us && !decide (xk = 6)) = false by rw [hrq]; rfl)
   have HRQ := Lib.hid hrq
   clear hrq hd HX HO HY HVS HB7
   refine wp_region_held_drew (S := (fun W => (∀ o, W.cell? ⟨w.heap.size + 1, o, none⟩ = (#[.int .i64 xk, .string x1, .string x2, .string x3, .string x4, .slice wo wn wc] : Array Value)[o]?) ∧ (∀ o, W.cell? ⟨b7, o, none⟩ = (#[.slice a0 l.length c0, .slice a1 g.length c1, .slice a2 h.length c2, .slice (some ⟨b9, 0, none⟩) 1 1] : Array Value)[o]?) ∧ ∀ o, W.cell? ⟨b9, o, none⟩ = (#[.int .i64 xk, .string x1, .string x2, .string x3, .string x4, .slice wo wn wc] : Array Value)[o]?)) (by kernel_rfl) ⟨HT'.b.1, HOd.out.1, HYd.out.1⟩ (fun hHeld => ?_)
   obtain ⟨wj, hwj⟩ : ∃ W, W = w7.drew := ⟨_, rfl⟩
   rw [← hwj] at HT' HXd HOd HYd HVd HBd hHeld ⊢
   clear hwj HT
   have HT := HT'
   have HX := HXd
   have HO := HOd
   have HY := HYd
   have HVS := HVd
   clear HT' HXd HOd HYd HVd
   (refine hyes 0 ?_); (refine hyes 1 ?_); (refine hyes 2 ?_); (refine hyes 3 ?_); (refine hyes 4 ?_); (refine hyes 5 ?_); (refine hyes 6 ?_); (refine hyes 7 ?_); (refine hyes 8 ?_); (refine hyes 9 ?_); (try simp only [Act.put, List.setIfInBounds_toArray, List.set])
   (refine held_call 10 rfl (by kernel_rfl) (fun K hK => ?_); go_simp)
   go_at_call 30; refine (ref4_SameSelf ⟨xk, ⟨x1, x2⟩, ⟨x3, x4⟩, .slice wo wn wc⟩ us _ (HSQ.out.hu.below HT.low)).mono ?_; rintro e wz10 ⟨rfl, hbq⟩
   have HBd := Lib.hid (HBd.out.trans (hbq.mono HBd.out.size))
   have HT := HT.later hbq
   have HX := Lib.hid (HX.out.below hbq)
   have HO := Lib.hid (HO.out.below hbq)
   have HY := Lib.hid (HY.out.below hbq)
   have HVS := Lib.hid (HVS.out.below hbq)
   clear hbq
   (refine hK.out _ _ (⟨HT.b.1, HO.out.1, HY.out.1⟩) (fun hHeld => ?_); clear hK K; (try simp only [Act.put, List.setIfInBounds_toArray, List.set]))
   (refine hyes 11 ?_); (refine hyes 12 ?_); (refine hyes 13 ?_); (refine hyes 14 ?_); (refine hyes 16 ?_); (try simp only [Act.put, List.setIfInBounds_toArray, List.set])
   (refine held_call 15 rfl (by kernel_rfl) (fun K hK => ?_); go_simp)
   go_at_call 31; refine (simq_Is HSQ.out HT.low).mono ?_; rintro e wz15 ⟨rfl, hbq⟩; rw [IS.out]
   have HBd := Lib.hid (HBd.out.trans (hbq.mono HBd.out.size))
   have HT := HT.later hbq
   have HX := Lib.hid (HX.out.below hbq)
   have HO := Lib.hid (HO.out.below hbq)
   have HY := Lib.hid (HY.out.below hbq)
   have HVS := Lib.hid (HVS.out.below hbq)
   clear hbq
   (refine hK.out _ _ (⟨HT.b.1, HO.out.1, HY.out.1⟩) (fun hHeld => ?_); clear hK K; (try simp only [Act.put, List.setIfInBounds_toArray, List.set]))
   (refine held_call 17 rfl (by kernel_rfl) (fun K hK => ?_); go_simp)
   go_at_call 32; refine (ref4_RightL ⟨xk, ⟨x1, x2⟩, ⟨x3, x4⟩, .slice wo wn wc⟩ us _ (HSQ.out.qok.1) (HSQ.out.qok.2.1) (HSQ.out.hu.below HT.low) HSQ.out.uz).mono ?_; rintro e wz17 ⟨rfl, hbq⟩; rw [HRQ.out]
   have HBd := Lib.hid (HBd.out.trans (hbq.mono HBd.out.size))
   have HT := HT.later hbq
   have HX := Lib.hid (HX.out.below hbq)
   have HO := Lib.hid (HO.out.below hbq)
   have HY := Lib.hid (HY.out.below hbq)
   have HVS := Lib.hid (HVS.out.below hbq)
   clear hbq
   (refine hK.out _ _ (⟨HT.b.1, HO.out.1, HY.out.1⟩) (fun hHeld => ?_); clear hK K; (try simp only [Act.put, List.setIfInBounds_toArray, List.set]))
   (refine hyes 18 ?_); (try simp only [Act.put, List.setIfInBounds_toArray, List.set])
   (refine hno 19 ?_); (try simp only [Act.put, List.setIfInBounds_toArray, List.set])
   (refine hno 20 ?_); (try simp only [Act.put, List.setIfInBounds_toArray, List.set])
   (refine hno 21 ?_); (try simp only [Act.put, List.setIfInBounds_toArray, List.set])
   (refine hyes 22 ?_); (refine hyes 23 ?_); (refine hyes 24 ?_); (try simp only [Act.put, List.setIfInBounds_toArray, List.set])
   refine wpAnyH_done (by kernel_rfl) ?_ _
   have HTr := Lib.hid HT
   clear HT
   have HT := HTr
   clear HTr IS
   obtain ⟨ca, fa, za⟩ := HT.out.a
   obtain ⟨cb, fb, zb⟩ := HT.out.b
   go_wp2_with fail
   refine (SM.out _ HT.out.low).mono ?_
   rintro e w8 ⟨⟨bs, rfl, hs⟩, hb8⟩
   have HS := Lib.hid (show _ from hs)
   have HB8 := Lib.hid hb8
   have HT := Lib.hid (HT.out.later hb8)
   have HX := Lib.hid (HX.out.below hb8)
   have HO := Lib.hid (HO.out.below hb8)
   have HVS := Lib.hid (HVS.out.below hb8)
   have HBd := Lib.hid (HBd.out.trans (hb8.mono HBd.out.size))
   clear hb8 hs ca fa za cb fb zb
   cases bs with
   | false =>
    obtain ⟨co, fo, zo⟩ := HO.out
    go_wp2_with fail
    refine (RO.out _ HBd.out HT.out.low).mono ?_
    rintro e w10 ⟨⟨br, rfl, hri⟩, hb10⟩
    have HRI := Lib.hid hri
    have HT := Lib.hid (HT.out.later hb10)
    have HX := Lib.hid (HX.out.below hb10)
    have HO := Lib.hid (HO.out.below hb10)
    have HVS := Lib.hid (HVS.out.below hb10)
    have HBd := Lib.hid (HBd.out.trans (hb10.mono HBd.out.size))
    clear hb10 hri co fo zo
    obtain ⟨cx, fx, zx⟩ := HX.out
    obtain ⟨cb, fb, zb⟩ := HT.out.b
    cases br with
    | false =>
     go_wp2_with fail
     refine (HL.out _ HT.out.low).mono ?_
     rintro e wl ⟨rfl, hbl⟩
     have TL := Lib.hid (HT.out.later hbl)
     clear hbl
     go_wp2
     go_ret
     exact ⟨rfl, TL.out.low⟩
    | true =>
     exact absurd ((HRI.out.1 (by first | rfl | trivial)).2.2.1 _ (List.mem_singleton.2 rfl)) (by rw [HRQ.out]; decide)
   | true =>
    by_cases k6 : xk = 6
    ·subst k6
     obtain ⟨cb, fb, zb⟩ := HT.out.b
     obtain ⟨co, fo, zo⟩ := HO.out
     go_wp2_with fail
     refine (RO.out _ HBd.out HT.out.low).mono ?_
     rintro e w10 ⟨⟨br, rfl, hri⟩, hb10⟩
     have HRI := Lib.hid hri
     have HT := Lib.hid (HT.out.later hb10)
     have HX := Lib.hid (HX.out.below hb10)
     have HO := Lib.hid (HO.out.below hb10)
     have HVS := Lib.hid (HVS.out.below hb10)
     have HBd := Lib.hid (HBd.out.trans (hb10.mono HBd.out.size))
     clear hb10 hri co fo zo
     obtain ⟨cx, fx, zx⟩ := HX.out
     obtain ⟨cb, fb, zb⟩ := HT.out.b
     cases br with
     | false =>
      go_wp2_with fail
      refine (HL.out _ HT.out.low).mono ?_
      rintro e wl ⟨rfl, hbl⟩
      have TL := Lib.hid (HT.out.later hbl)
      clear hbl
      go_wp2
      go_ret
      exact ⟨rfl, TL.out.low⟩
     | true =>
      exact absurd ((HRI.out.1 (by first | rfl | trivial)).2.2.1 _ (List.mem_singleton.2 rfl)) (by rw [HRQ.out]; decide)
    ·obtain ⟨PS, NS, hsi, _, _⟩ := HS.out (by first | rfl | trivial); exact absurd ⟨(hsi k6).right, k6⟩ NR.out
  | true =>
   by_cases k6 : xk = 6
   ·subst k6
    have HT' := HT.out.drew
    have hd := below_drew (Below.refl w7.heap.size w7)
    have HXd := Lib.hid (HX.out.below hd)
    have HOd := Lib.hid (HO.out.below hd)
    have HYd := Lib.hid (HY.out.below hd)
    have HVd := Lib.hid (HVS.out.below hd)
    have HBd := Lib.hid hd
    have IS := Lib.hid (show (rightQ ⟨6, ⟨x1, x2⟩, ⟨x3, x4⟩, .slice wo wn wc⟩ us && !decide ((6 : Int) = 6)) = false by rw [hrq]; simp)
    have HRQ := Lib.hid hrq
    clear hrq hd HX HO HY HVS HB7
    refine wp_region_held_drew (S := (fun W => (∀ o, W.cell? ⟨w.heap.size + 1, o, none⟩ = (#[.int .i64 6, .string x1, .string x2, .string x3, .string x4, .slice wo wn wc] : Array Value)[o]?) ∧ (∀ o, W.cell? ⟨b7, o, none⟩ = (#[.slice a0 l.length c0, .slice a1 g.length c1, .slice a2 h.length c2, .slice (some ⟨b9, 0, none⟩) 1 1] : Array Value)[o]?) ∧ ∀ o, W.cell? ⟨b9, o, none⟩ = (#[.int .i64 6, .string x1, .string x2, .string x3, .string x4, .slice wo wn wc] : Array Value)[o]?)) (by kernel_rfl) ⟨HT'.b.1, HOd.out.1, HYd.out.1⟩ (fun hHeld => ?_)
    obtain ⟨wj, hwj⟩ : ∃ W, W = w7.drew := ⟨_, rfl⟩
    rw [← hwj] at HT' HXd HOd HYd HVd HBd hHeld ⊢
    clear hwj HT
    have HT := HT'
    have HX := HXd
    have HO := HOd
    have HY := HYd
    have HVS := HVd
    clear HT' HXd HOd HYd HVd
    (refine hyes 0 ?_); (refine hyes 1 ?_); (refine hyes 2 ?_); (refine hyes 3 ?_); (refine hyes 4 ?_); (refine hyes 5 ?_); (refine hyes 6 ?_); (refine hyes 7 ?_); (refine hyes 8 ?_); (refine hyes 9 ?_); (try simp only [Act.put, List.setIfInBounds_toArray, List.set])
    (refine held_call 10 rfl (by kernel_rfl) (fun K hK => ?_); go_simp)
    go_at_call 30; refine (ref4_SameSelf ⟨6, ⟨x1, x2⟩, ⟨x3, x4⟩, .slice wo wn wc⟩ us _ (HSQ.out.hu.below HT.low)).mono ?_; rintro e wz10 ⟨rfl, hbq⟩
    have HBd := Lib.hid (HBd.out.trans (hbq.mono HBd.out.size))
    have HT := HT.later hbq
    have HX := Lib.hid (HX.out.below hbq)
    have HO := Lib.hid (HO.out.below hbq)
    have HY := Lib.hid (HY.out.below hbq)
    have HVS := Lib.hid (HVS.out.below hbq)
    clear hbq
    (refine hK.out _ _ (⟨HT.b.1, HO.out.1, HY.out.1⟩) (fun hHeld => ?_); clear hK K; (try simp only [Act.put, List.setIfInBounds_toArray, List.set]))
    (refine hyes 11 ?_); (refine hyes 12 ?_); (refine hyes 13 ?_); (refine hyes 14 ?_); (refine hyes 16 ?_); (try simp only [Act.put, List.setIfInBounds_toArray, List.set])
    (refine held_call 15 rfl (by kernel_rfl) (fun K hK => ?_); go_simp)
    go_at_call 31; refine (simq_Is HSQ.out HT.low).mono ?_; rintro e wz15 ⟨rfl, hbq⟩; rw [IS.out]
    have HBd := Lib.hid (HBd.out.trans (hbq.mono HBd.out.size))
    have HT := HT.later hbq
    have HX := Lib.hid (HX.out.below hbq)
    have HO := Lib.hid (HO.out.below hbq)
    have HY := Lib.hid (HY.out.below hbq)
    have HVS := Lib.hid (HVS.out.below hbq)
    clear hbq
    (refine hK.out _ _ (⟨HT.b.1, HO.out.1, HY.out.1⟩) (fun hHeld => ?_); clear hK K; (try simp only [Act.put, List.setIfInBounds_toArray, List.set]))
    (refine held_call 17 rfl (by kernel_rfl) (fun K hK => ?_); go_simp)
    go_at_call 32; refine (ref4_RightL ⟨6, ⟨x1, x2⟩, ⟨x3, x4⟩, .slice wo wn wc⟩ us _ (HSQ.out.qok.1) (HSQ.out.qok.2.1) (HSQ.out.hu.below HT.low) HSQ.out.uz).mono ?_; rintro e wz17 ⟨rfl, hbq⟩; rw [HRQ.out]
    have HBd := Lib.hid (HBd.out.trans (hbq.mono HBd.out.size))
    have HT := HT.later hbq
    have HX := Lib.hid (HX.out.below hbq)
    have HO := Lib.hid (HO.out.below hbq)
    have HY := Lib.hid (HY.out.below hbq)
    have HVS := Lib.hid (HVS.out.below hbq)
    clear hbq
    (refine hK.out _ _ (⟨HT.b.1, HO.out.1, HY.out.1⟩) (fun hHeld => ?_); clear hK K; (try simp only [Act.put, List.setIfInBounds_toArray, List.set]))
    (refine hyes 18 ?_); (refine hyes 19 ?_); (refine hyes 20 ?_); (refine hyes 21 ?_); (refine hyes 22 ?_); (refine hyes 23 ?_); (refine hyes 24 ?_); (try simp only [Act.put, List.setIfInBounds_toArray, List.set])
    refine wpAnyH_done (by kernel_rfl) ?_ _
    have HTr := Lib.hid HT
    clear HT
    have HT := HTr
    clear HTr IS
    obtain ⟨ca, fa, za⟩ := HT.out.a
    obtain ⟨cb, fb, zb⟩ := HT.out.b
    go_wp2_with fail
    refine (SM.out _ HT.out.low).mono ?_
    rintro e w8 ⟨⟨bs, rfl, hs⟩, hb8⟩
    have HS := Lib.hid (show _ from hs)
    have HB8 := Lib.hid hb8
    have HT := Lib.hid (HT.out.later hb8)
    have HX := Lib.hid (HX.out.below hb8)
    have HO := Lib.hid (HO.out.below hb8)
    have HVS := Lib.hid (HVS.out.below hb8)
    have HBd := Lib.hid (HBd.out.trans (hb8.mono HBd.out.size))
    clear hb8 hs ca fa za cb fb zb
    cases bs with
    | false =>
     obtain ⟨co, fo, zo⟩ := HO.out
     go_wp2_with fail
     refine (RO.out _ HBd.out HT.out.low).mono ?_
     rintro e w10 ⟨⟨br, rfl, hri⟩, hb10⟩
     have HRI := Lib.hid hri
     have HT := Lib.hid (HT.out.later hb10)
     have HX := Lib.hid (HX.out.below hb10)
     have HO := Lib.hid (HO.out.below hb10)
     have HVS := Lib.hid (HVS.out.below hb10)
     have HBd := Lib.hid (HBd.out.trans (hb10.mono HBd.out.size))
     clear hb10 hri co fo zo
     obtain ⟨cx, fx, zx⟩ := HX.out
     obtain ⟨cb, fb, zb⟩ := HT.out.b
     cases br with
     | false =>
      go_wp2_with fail
      refine (HL.out _ HT.out.low).mono ?_
      rintro e wl ⟨rfl, hbl⟩
      have TL := Lib.hid (HT.out.later hbl)
      clear hbl
      go_wp2
      go_ret
      exact ⟨rfl, TL.out.low⟩
     | true =>
      go_wp2_with fail
      refine (HL.out _ HT.out.low).mono ?_
      rintro e wl ⟨rfl, hbl⟩
      have TL := Lib.hid (HT.out.later hbl)
      clear hbl
      go_wp2
      go_ret
      exact ⟨rfl, TL.out.low⟩
    | true =>
     obtain ⟨cb, fb, zb⟩ := HT.out.b
     obtain ⟨co, fo, zo⟩ := HO.out
     go_wp2_with fail
     refine (RO.out _ HBd.out HT.out.low).mono ?_
     rintro e w10 ⟨⟨br, rfl, hri⟩, hb10⟩
     have HRI := Lib.hid hri
     have HT := Lib.hid (HT.out.later hb10)
     have HX := Lib.hid (HX.out.below hb10)
     have HO := Lib.hid (HO.out.below hb10)
     have HVS := Lib.hid (HVS.out.below hb10)
     have HBd := Lib.hid (HBd.out.trans (hb10.mono HBd.out.size))
     clear hb10 hri co fo zo
     obtain ⟨cx, fx, zx⟩ := HX.out
     obtain ⟨cb, fb, zb⟩ := HT.out.b
     cases br with
     | false =>
      go_wp2_with fail
      refine (HL.out _ HT.out.low).mono ?_
      rintro e wl ⟨rfl, hbl⟩
      have TL := Lib.hid (HT.out.later hbl)
      clear hbl
      go_wp2
      go_ret
      exact ⟨rfl, TL.out.low⟩
     | true =>
      go_wp2_with fail
      refine (HL.out _ HT.out.low).mono ?_
      rintro e wl ⟨rfl, hbl⟩
      have TL := Lib.hid (HT.out.later hbl)
      clear hbl
      go_wp2
      go_ret
      exact ⟨rfl, TL.out.low⟩
   ·have HNO := NR
    have d6 : (xk == 6) = false := by simp [k6]
    have d6n : (xk != 6) = true := by simp [k6]
    have HT' := HT.out.drew
    have hd := below_drew (Below.refl w7.heap.size w7)
    have HXd := Lib.hid (HX.out.below hd)
    have HOd := Lib.hid (HO.out.below hd)
    have HYd := Lib.hid (HY.out.below hd)
    have HVd := Lib.hid (HVS.out.below hd)
    have HBd := Lib.hid hd
    have IS := Lib.hid (show (rightQ ⟨xk, ⟨x1, x2⟩, ⟨x3, x4⟩, .slice wo wn wc⟩ us && !decide (xk = 6)) = true by rw [hrq]; simp [k6])
    have HRQ := Lib.hid hrq
    clear hrq hd HX HO HY HVS HB7
    refine wp_region_held_drew (S := (fun W => (∀ o, W.cell? ⟨w.heap.size + 1, o, none⟩ = (#[.int .i64 xk, .string x1, .string x2, .string x3, .string x4, .slice wo wn wc] : Array Value)[o]?) ∧ (∀ o, W.cell? ⟨b7, o, none⟩ = (#[.slice a0 l.length c0, .slice a1 g.length c1, .slice a2 h.length c2, .slice (some ⟨b9, 0, none⟩) 1 1] : Array Value)[o]?) ∧ ∀ o, W.cell? ⟨b9, o, none⟩ = (#[.int .i64 xk, .string x1, .string x2, .string x3, .string x4, .slice wo wn wc] : Array Value)[o]?)) (by kernel_rfl) ⟨HT'.b.1, HOd.out.1, HYd.out.1⟩ (fun hHeld => ?_)
    obtain ⟨wj, hwj⟩ : ∃ W, W = w7.drew := ⟨_, rfl⟩
    rw [← hwj] at HT' HXd HOd HYd HVd HBd hHeld ⊢
    clear hwj HT
    have HT := HT'
    have HX := HXd
    have HO := HOd
    have HY := HYd
    have HVS := HVd
    clear HT' HXd HOd HYd HVd
    (refine hyes 0 ?_); (refine hyes 1 ?_); (refine hyes 2 ?_); (refine hyes 3 ?_); (refine hyes 4 ?_); (refine hyes 5 ?_); (refine hyes 6 ?_); (refine hyes 7 ?_); (refine hyes 8 ?_); (refine hyes 9 ?_); (try simp only [Act.put, List.setIfInBounds_toArray, List.set])
    (refine held_call 10 rfl (by kernel_rfl) (fun K hK => ?_); go_simp)
    go_at_call 30; refine (ref4_SameSelf ⟨xk, ⟨x1, x2⟩, ⟨x3, x4⟩, .slice wo wn wc⟩ us _ (HSQ.out.hu.below HT.low)).mono ?_; rintro e wz10 ⟨rfl, hbq⟩
    have HBd := Lib.hid (HBd.out.trans (hbq.mono HBd.out.size))
    have HT := HT.later hbq
    have HX := Lib.hid (HX.out.below hbq)
    have HO := Lib.hid (HO.out.below hbq)
    have HY := Lib.hid (HY.out.below hbq)
    have HVS := Lib.hid (HVS.out.below hbq)
    clear hbq
    (refine hK.out _ _ (⟨HT.b.1, HO.out.1, HY.out.1⟩) (fun hHeld => ?_); clear hK K; (try simp only [Act.put, List.setIfInBounds_toArray, List.set]))
    (refine hyes 11 ?_); (refine hyes 12 ?_); (refine hyes 13 ?_); (refine hyes 14 ?_); (refine hyes 16 ?_); (try simp only [Act.put, List.setIfInBounds_toArray, List.set])
    (refine held_call 15 rfl (by kernel_rfl) (fun K hK => ?_); go_simp)
    go_at_call 31; refine (simq_Is HSQ.out HT.low).mono ?_; rintro e wz15 ⟨rfl, hbq⟩; rw [IS.out]
    have HBd := Lib.hid (HBd.out.trans (hbq.mono HBd.out.size))
    have HT := HT.later hbq
    have HX := Lib.hid (HX.out.below hbq)
    have HO := Lib.hid (HO.out.below hbq)
    have HY := Lib.hid (HY.out.below hbq)
    have HVS := Lib.hid (HVS.out.below hbq)
    clear hbq
    (refine hK.out _ _ (⟨HT.b.1, HO.out.1, HY.out.1⟩) (fun hHeld => ?_); clear hK K; (try simp only [Act.put, List.setIfInBounds_toArray, List.set]))
    (refine held_call 17 rfl (by kernel_rfl) (fun K hK => ?_); go_simp)
    go_at_call 32; refine (ref4_RightL ⟨xk, ⟨x1, x2⟩, ⟨x3, x4⟩, .slice wo wn wc⟩ us _ (HSQ.out.qok.1) (HSQ.out.qok.2.1) (HSQ.out.hu.below HT.low) HSQ.out.uz).mono ?_; rintro e wz17 ⟨rfl, hbq⟩; rw [HRQ.out]
    have HBd := Lib.hid (HBd.out.trans (hbq.mono HBd.out.size))
    have HT := HT.later hbq
    have HX := Lib.hid (HX.out.below hbq)
    have HO := Lib.hid (HO.out.below hbq)
    have HY := Lib.hid (HY.out.below hbq)
    have HVS := Lib.hid (HVS.out.below hbq)
    clear hbq
    (refine hK.out _ _ (⟨HT.b.1, HO.out.1, HY.out.1⟩) (fun hHeld => ?_); clear hK K; (try simp only [Act.put, List.setIfInBounds_toArray, List.set]))
    (refine hyes 18 ?_); (refine hyes 19 ?_); (refine hyes 20 ?_); (refine hyes 21 ?_); (refine hyes 22 ?_); (refine hyes 23 ?_); (refine hyes 24 ?_); (try simp only [Act.put, List.setIfInBounds_toArray, List.set])
    refine wpAnyH_done (by kernel_rfl) ?_ _
    have HTr := Lib.hid HT
    clear HT
    have HT := HTr
    clear HTr IS
    obtain ⟨ca, fa, za⟩ := HT.out.a
    obtain ⟨cb, fb, zb⟩ := HT.out.b
    go_wp2_with fail
    refine (SM.out _ HT.out.low).mono ?_
    rintro e w8 ⟨⟨bs, rfl, hs⟩, hb8⟩
    have HS := Lib.hid (show _ from hs)
    have HB8 := Lib.hid hb8
    have HT := Lib.hid (HT.out.later hb8)
    have HX := Lib.hid (HX.out.below hb8)
    have HO := Lib.hid (HO.out.below hb8)
    have HVS := Lib.hid (HVS.out.below hb8)
    have HBd := Lib.hid (HBd.out.trans (hb8.mono HBd.out.size))
    clear hb8 hs ca fa za cb fb zb
    cases bs with
    | false =>
     obtain ⟨co, fo, zo⟩ := HO.out
     go_wp2_with fail
     refine (RO.out _ HBd.out HT.out.low).mono ?_
     rintro e w10 ⟨⟨br, rfl, hri⟩, hb10⟩
     have HRI := Lib.hid hri
     have HT := Lib.hid (HT.out.later hb10)
     have HX := Lib.hid (HX.out.below hb10)
     have HO := Lib.hid (HO.out.below hb10)
     have HVS := Lib.hid (HVS.out.below hb10)
     have HBd := Lib.hid (HBd.out.trans (hb10.mono HBd.out.size))
     clear hb10 hri co fo zo
     obtain ⟨cx, fx, zx⟩ := HX.out
     obtain ⟨cb, fb, zb⟩ := HT.out.b
     cases br with
     | false =>
      go_wp2_with fail
      refine (HL.out _ HT.out.low).mono ?_
      rintro e wl ⟨rfl, hbl⟩
      have TL := Lib.hid (HT.out.later hbl)
      clear hbl
      go_wp2
      go_ret
      exact ⟨rfl, TL.out.low⟩
     | true =>
      exact absurd ⟨HRI.out.1 (by first | rfl | trivial), k6⟩ NR.out
    | true =>
     obtain ⟨PS, NS, hsi, _, _⟩ := HS.out (by first | rfl | trivial); exact absurd ⟨(hsi k6).right, k6⟩ NR.out
end Go.Proofs.YtcmdhfccdkjenaaGreatDoor
namespace Go.Proofs.YtcmdhfccdkjenaaGreatDoor
open Go.ChangeShapes Go.WideShapes Go.ChangeAt Go.RowKit

section
variable {H : Type} {enc : TypeId × Value → H} {w : World} {base fuel n : Nat} {sp : Nat → Bool} {held : Bool} {cs : List Value} {x : DataW H × List MemPlace} {v : Value} {d : DataW H} {ps : List MemPlace}
def dStr (H : Type) (s : ByteArray) : DataW H := .lit (.string s.data.toList)
def dRl (H : Type) (r : Rl) : DataW H := .agg [dStr H r.o, dStr H r.n]
def dSt (H : Type) (s : St) : DataW H := .agg [.lit (.int .i64 s.k), dRl H s.h, dStr H s.who, dRl H s.a, dRl H s.b, dStr H s.via]
def St.fits (s : St) : Prop := s.le maxLen ∧ (Lit.int IntKind.i64 s.k).wf = true

theorem two_of (h : cs.length = 2) : ∃ a b, cs = [a, b] := by
 match cs, h with
 | [a, b], _ => exact ⟨a, b, rfl⟩
theorem trod_role (h : DataW.trod enc Tryz.prog w base sp held fuel 28 cs = some x) : ∃ r : Rl, cs = r.cells ∧ x = (dRl H r, []) ∧ r.le maxLen := by
 obtain ⟨xs, n, _, rfl, hl, hlen, hf⟩ := DataW.trod_struct Tryz.underlying28 h
 have hc : Tryz.prog.cellsOf 28 = 2 := by kernel_rfl
 have hs : Tryz.prog.cellsOf 9 = 1 := by kernel_rfl
 rw [hc] at hl
 obtain ⟨a, b, rfl⟩ := two_of hl
 have f0 : DataW.trod enc Tryz.prog w base sp held n 9 [a] = xs[0]? := by simpa [hs] using hf 0 _ rfl
 have f1 : DataW.trod enc Tryz.prog w base sp held n 9 [b] = xs[1]? := by simpa [hs] using hf 1 _ rfl
 match xs, hlen with
 | [y0, y1], _ =>
  simp only [List.getElem?_cons_zero, List.getElem?_cons_succ] at f0 f1
  obtain ⟨s0, e0, g0, l0⟩ := DataW.trod_string Tryz.underlying9 f0
  obtain ⟨s1, e1, g1, l1⟩ := DataW.trod_string Tryz.underlying9 f1
  simp only [List.cons.injEq, and_true] at e0 e1
  subst e0 e1 g0 g1
  exact ⟨⟨s0, s1⟩, rfl, rfl, l0, l1⟩
theorem nine_of (h : cs.length = 9) : ∃ a b c d e f g i j, cs = [a, b, c, d, e, f, g, i, j] := by
 match cs, h with
 | [a, b, c, d, e, f, g, i, j], _ => exact ⟨a, b, c, d, e, f, g, i, j, rfl⟩
theorem trod_stmt (h : DataW.trod enc Tryz.prog w base sp held fuel 35 cs = some x) : ∃ s : St, cs = s.cells ∧ x = (dSt H s, []) ∧ s.fits := by
 obtain ⟨xs, n, _, rfl, hl, hlen, hf⟩ := DataW.trod_struct Tryz.underlying35 h
 have hc : Tryz.prog.cellsOf 35 = 9 := by kernel_rfl
 have hr : Tryz.prog.cellsOf 28 = 2 := by kernel_rfl
 have hi : Tryz.prog.cellsOf 3 = 1 := by kernel_rfl
 have hs : Tryz.prog.cellsOf 9 = 1 := by kernel_rfl
 rw [hc] at hl
 obtain ⟨c0, c1, c2, c3, c4, c5, c6, c7, c8, rfl⟩ := nine_of hl
 have f0 : DataW.trod enc Tryz.prog w base sp held n 3 [c0] = xs[0]? := by simpa [hi] using hf 0 _ rfl
 have f1 : DataW.trod enc Tryz.prog w base sp held n 28 [c1, c2] = xs[1]? := by simpa [hr] using hf 1 _ rfl
 have f2 : DataW.trod enc Tryz.prog w base sp held n 9 [c3] = xs[2]? := by simpa [hs] using hf 2 _ rfl
 have f3 : DataW.trod enc Tryz.prog w base sp held n 28 [c4, c5] = xs[3]? := by simpa [hr] using hf 3 _ rfl
 have f4 : DataW.trod enc Tryz.prog w base sp held n 28 [c6, c7] = xs[4]? := by simpa [hr] using hf 4 _ rfl
 have f5 : DataW.trod enc Tryz.prog w base sp held n 9 [c8] = xs[5]? := by simpa [hs] using hf 5 _ rfl
 match xs, hlen with
 | [y0, y1, y2, y3, y4, y5], _ =>
  simp only [List.getElem?_cons_zero, List.getElem?_cons_succ] at f0 f1 f2 f3 f4 f5
  obtain ⟨k, e0, g0, l0⟩ := DataW.trod_int Tryz.underlying3 f0
  obtain ⟨r1, e1, g1, l1⟩ := trod_role f1
  obtain ⟨s2, e2, g2, l2⟩ := DataW.trod_string Tryz.underlying9 f2
  obtain ⟨r3, e3, g3, l3⟩ := trod_role f3
  obtain ⟨r4, e4, g4, l4⟩ := trod_role f4
  obtain ⟨s5, e5, g5, l5⟩ := DataW.trod_string Tryz.underlying9 f5
  simp only [Rl.cells, List.cons.injEq, and_true] at e0 e1 e2 e3 e4 e5
  obtain ⟨rfl, rfl⟩ := e1
  obtain ⟨rfl, rfl⟩ := e3
  obtain ⟨rfl, rfl⟩ := e4
  subst e0 e2 e5 g0 g1 g2 g3 g4 g5
  exact ⟨⟨k, r1, s2, r3, r4, s5⟩, rfl, rfl, ⟨l1, l2, l3, l4, l5⟩, l0⟩
end
end Go.Proofs.YtcmdhfccdkjenaaGreatDoor
namespace Go.Proofs.YtcmdhfccdkjenaaGreatDoor
open Go.ChangeShapes Go.WideShapes Go.ChangeAt Go.RowKit Go.Deep

theorem laid_out : laidOutB Tryz.prog = true := by kernel_rfl
end Go.Proofs.YtcmdhfccdkjenaaGreatDoor
namespace Go.Proofs.YtcmdhfccdkjenaaGreatDoor
open Go.ChangeShapes Go.WideShapes Go.ChangeAt Go.RowKit Go.Deep

section
variable {H : Type} {enc : TypeId × Value → H} {w : World} {base : Nat} {held : Bool}
theorem open_rowOf {α : Type} [Inhabited α] (cells : α → List Value) (k : Nat) (hk : 0 < k) (hlen : ∀ x, (cells x).length = k) {t e : TypeId} (ht : Tryz.prog.underlying t = some (.slice e)) (hc : Tryz.prog.cellsOf e = k) (p : α → Prop)
  (each : ∀ n cs y, DataW.trod enc Tryz.prog w base (fun _ => true) held n e cs = some y → ∃ x : α, cs = cells x ∧ p x) {fuel : Nat} {c : Value} {y : DataW H × List MemPlace}
  (hf : DataW.trod enc Tryz.prog w base (fun _ => true) held fuel t [c] = some y) : ∃ l : List α, SlA w k c l.length (l.flatMap cells) ∧ ∀ x ∈ l, p x := by
 rcases open_slice ht hf with ⟨hcs, _⟩ | ⟨a, len, cap, m, n, D, Pl, hcs, _, hl, hm, hmm, _, hx⟩
 ·simp only [List.cons.injEq, and_true] at hcs
  subst hcs
  exact ⟨[], (Sl.nil _ _).a, fun s hs => by cases hs⟩
 ·simp only [List.cons.injEq, and_true] at hcs
  subst hcs
  simp only [if_true] at hmm
  subst hmm
  rw [hc] at hx
  have hex : ∀ i, i < m → ∃ s : α, w.cells? base (a.add (i * k)) k = some (cells s) ∧ p s := by
   intro i hi
   obtain ⟨cs', h1, h2⟩ := hx i hi
   obtain ⟨s, rfl, hs⟩ := each _ _ _ h2
   exact ⟨s, h1, hs⟩
  obtain ⟨S, hS⟩ := choose_lt hex
  obtain ⟨b, off, spot⟩ := a
  by_cases h0 : 0 < len
  ·have hk0 : 0 < (cells (S 0)).length := by rw [hlen]; exact hk
   have c0 := (World.cells?_some (hS 0 (by omega)).1).2.2 0 hk
   rw [List.getElem?_eq_getElem hk0] at c0
   have hspot : spot = none := by simpa [Addr.add] using World.cell?_spot c0
   subst hspot
   have hlenl : ((List.range len).map S).length = len := by simp
   have hcell : ∀ j u, (((List.range len).map S).flatMap cells)[j]? = some u → w.cell? ⟨b, off + j, none⟩ = some u := by
    intro j u hu
    have hj : j < len * k := by
     have := (List.getElem?_eq_some_iff.1 hu).1
     rwa [flat_len cells k hlen, hlenl] at this
    have hf9 : j % k < k := Nat.mod_lt _ hk
    have hi : j / k < len := Nat.div_lt_of_lt_mul (by rwa [Nat.mul_comm])
    have e : j = j / k * k + j % k := by rw [Nat.mul_comm]; exact (Nat.div_add_mod j k).symm
    rw [e, flat_get cells k hlen _ (j / k) (j % k) hf9 (S (j / k)) (by simp [hi])] at hu
    have h1 := (World.cells?_some (hS (j / k) (by omega)).1).2.2 (j % k) hf9
    rw [add_add, add_plain, ← e] at h1
    exact h1.trans hu
   refine ⟨(List.range len).map S, .inl ?_, fun s hs => ?_⟩
   ·rw [hlenl]
    refine ⟨by rw [flat_len cells k hlen, hlenl], by omega, .inr ⟨b, off, m, rfl, hl, hm, ?_, hcell⟩⟩
    rw [add_add, add_plain] at c0
    exact World.block_lt_of_cell? _ _ c0
   ·obtain ⟨i, hi, rfl⟩ := List.mem_map.1 hs
    exact (hS i (by have := List.mem_range.1 hi; omega)).2
  ·have hl0 : len = 0 := by omega
   subst hl0
   exact ⟨[], .inr ⟨⟨_, _, rfl⟩, rfl, rfl⟩, fun s hs => by cases hs⟩

theorem maxLen_eq : maxLen = 9223372036854775807 := by decide
theorem le_max {s : St} (h : s.fits) : s.le 9223372036854775807 := by have := h.1; rwa [maxLen_eq] at this
theorem rle_max {r : Rl} (h : r.le maxLen) : r.le 9223372036854775807 := by rwa [maxLen_eq] at h
instance : Inhabited Rl := ⟨noR⟩
theorem open_stsC {fuel : Nat} {c : Value} {y : DataW H × List MemPlace} (hf : DataW.trod enc Tryz.prog w base (fun _ => true) held fuel 22 [c] = some y) :
  ∃ l : List St, SlA w 9 c l.length (l.flatMap St.cells) ∧ allLe l 9223372036854775807 :=
 open_rowOf St.cells 9 (by decide) St.cells_len Tryz.underlying22 (by kernel_rfl) (fun s => s.le 9223372036854775807)
  (fun _ _ _ h => by obtain ⟨s, e, _, hs⟩ := trod_stmt h; exact ⟨s, e, le_max hs⟩) hf
theorem open_rls {fuel : Nat} {c : Value} {y : DataW H × List MemPlace} (hf : DataW.trod enc Tryz.prog w base (fun _ => true) held fuel 23 [c] = some y) :
  ∃ l : List Rl, SlA w 2 c l.length (l.flatMap Rl.cells) ∧ ∀ x ∈ l, x.le 9223372036854775807 :=
 open_rowOf Rl.cells 2 (by decide) Rl.cells_len Tryz.underlying23 (by kernel_rfl) (fun s => s.le 9223372036854775807)
  (fun _ _ _ h => by obtain ⟨s, e, _, hs⟩ := trod_role h; exact ⟨s, e, rle_max hs⟩) hf
theorem strs_flat (l : List ByteArray) : (l.flatMap fun s => [Value.string s]) = strs l := by
 induction l with
 | nil => rfl
 | cons a r ih => rw [List.flatMap_cons, ih]; rfl
theorem open_strsC {fuel : Nat} {c : Value} {y : DataW H × List MemPlace} (hf : DataW.trod enc Tryz.prog w base (fun _ => true) held fuel 38 [c] = some y) :
  ∃ l : List ByteArray, SlA w 1 c l.length (strs l) ∧ ∀ x ∈ l, x.size ≤ 9223372036854775807 := by
 obtain ⟨l, h1, h2⟩ := open_rowOf (fun s : ByteArray => [Value.string s]) 1 (by decide) (fun _ => rfl) Tryz.underlying38 (by kernel_rfl) (fun s => s.size ≤ 9223372036854775807)
  (fun _ cs _ h => by obtain ⟨s, e, _, hs⟩ := DataW.trod_string Tryz.underlying9 h; exact ⟨s, e, by rwa [maxLen_eq] at hs⟩) hf
 exact ⟨l, by rwa [strs_flat] at h1, h2⟩

theorem six_of {cs : List Value} (h : cs.length = 6) : ∃ a b c d e f, cs = [a, b, c, d, e, f] := by
 match cs, h with
 | [a, b, c, d, e, f], _ => exact ⟨a, b, c, d, e, f, rfl⟩
theorem trod_query {fuel : Nat} {cs : List Value} {x : DataW H × List MemPlace} (h : DataW.trod enc Tryz.prog w base (fun _ => true) held fuel 45 cs = some x) : ∃ q : Qv, cs = q.cells ∧ q.ok w := by
 obtain ⟨xs, n, _, rfl, hl, hlen, hf⟩ := DataW.trod_struct Tryz.underlying45 h
 have hc : Tryz.prog.cellsOf 45 = 6 := by kernel_rfl
 have hr : Tryz.prog.cellsOf 28 = 2 := by kernel_rfl
 have hi : Tryz.prog.cellsOf 3 = 1 := by kernel_rfl
 have hs : Tryz.prog.cellsOf 38 = 1 := by kernel_rfl
 rw [hc] at hl
 obtain ⟨c0, c1, c2, c3, c4, c5, rfl⟩ := six_of hl
 have f0 : DataW.trod enc Tryz.prog w base (fun _ => true) held n 3 [c0] = xs[0]? := by simpa [hi] using hf 0 _ rfl
 have f1 : DataW.trod enc Tryz.prog w base (fun _ => true) held n 28 [c1, c2] = xs[1]? := by simpa [hr] using hf 1 _ rfl
 have f2 : DataW.trod enc Tryz.prog w base (fun _ => true) held n 28 [c3, c4] = xs[2]? := by simpa [hr] using hf 2 _ rfl
 have f3 : DataW.trod enc Tryz.prog w base (fun _ => true) held n 38 [c5] = xs[3]? := by simpa [hs] using hf 3 _ rfl
 match xs, hlen with
 | [y0, y1, y2, y3], _ =>
  simp only [List.getElem?_cons_zero, List.getElem?_cons_succ] at f0 f1 f2 f3
  obtain ⟨k, e0, _, _⟩ := DataW.trod_int Tryz.underlying3 f0
  obtain ⟨r1, e1, _, l1⟩ := trod_role f1
  obtain ⟨r2, e2, _, l2⟩ := trod_role f2
  obtain ⟨ss, s3, l3⟩ := open_strsC f3
  simp only [Rl.cells, List.cons.injEq, and_true] at e0 e1 e2
  obtain ⟨rfl, rfl⟩ := e1
  obtain ⟨rfl, rfl⟩ := e2
  subst e0
  exact ⟨⟨k, r1, r2, c5⟩, rfl, rle_max l1, rle_max l2, ss, s3, l3⟩
theorem open_qs {fuel : Nat} {c : Value} {y : DataW H × List MemPlace} (hf : DataW.trod enc Tryz.prog w base (fun _ => true) held fuel 24 [c] = some y) :
  ∃ l : List Qv, SlA w 6 c l.length (l.flatMap Qv.cells) ∧ ∀ x ∈ l, x.ok w :=
 open_rowOf Qv.cells 6 (by decide) Qv.cells_len Tryz.underlying24 (by kernel_rfl) (fun q => q.ok w) (fun _ _ _ h => trod_query h) hf
theorem four_of {cs : List Value} (h : cs.length = 4) : ∃ a b c d, cs = [a, b, c, d] := by
 match cs, h with
 | [a, b, c, d], _ => exact ⟨a, b, c, d, rfl⟩
set_option maxRecDepth 100000 in
theorem open_pol {r : Reach} {b0 : Nat} {v : Value} {d : DataW H} {ps : List MemPlace} (hval : Value.okWide Tryz.prog w r b0 26 v) (hd : DataW.Trod enc Tryz.prog w base (fun _ => true) held 26 v d ps) :
  ∃ v0 v1 v2 v3 l g h qs, v = pv v0 v1 v2 v3 ∧ PolAt w v0 v1 v2 v3 l g h qs := by
 obtain ⟨cs, rfl, _⟩ := okWide_struct Tryz.underlying26 hval
 obtain ⟨fuel, hf⟩ := hd
 obtain ⟨xs, n, _, _, hl, hlen, hf'⟩ := DataW.trod_struct Tryz.underlying26 hf
 have hc : Tryz.prog.cellsOf 26 = 4 := by kernel_rfl
 have h0 : Tryz.prog.cellsOf 22 = 1 := by kernel_rfl
 have h1 : Tryz.prog.cellsOf 23 = 1 := by kernel_rfl
 have h2 : Tryz.prog.cellsOf 24 = 1 := by kernel_rfl
 rw [hc] at hl
 obtain ⟨c0, c1, c2, c3, hcs⟩ := four_of hl
 rw [hcs] at hf'
 have f0 : DataW.trod enc Tryz.prog w base (fun _ => true) held n 22 [c0] = xs[0]? := by simpa [h0] using hf' 0 _ rfl
 have f1 : DataW.trod enc Tryz.prog w base (fun _ => true) held n 23 [c1] = xs[1]? := by simpa [h1] using hf' 1 _ rfl
 have f2 : DataW.trod enc Tryz.prog w base (fun _ => true) held n 23 [c2] = xs[2]? := by simpa [h1] using hf' 2 _ rfl
 have f3 : DataW.trod enc Tryz.prog w base (fun _ => true) held n 24 [c3] = xs[3]? := by simpa [h2] using hf' 3 _ rfl
 match xs, hlen with
 | [y0, y1, y2, y3], _ =>
  simp only [List.getElem?_cons_zero, List.getElem?_cons_succ] at f0 f1 f2 f3
  obtain ⟨l, s0, l0⟩ := open_stsC f0
  obtain ⟨g, s1, l1⟩ := open_rls f1
  obtain ⟨h, s2, l2⟩ := open_rls f2
  obtain ⟨qs, s3, l3⟩ := open_qs f3
  refine ⟨c0, c1, c2, c3, l, g, h, qs, ?_, ⟨s0, s1, s2, s3, l0, l1, l2, l3⟩⟩
  obtain ⟨cl⟩ := cs
  simp only [Value.cells] at hcs
  have : cl = [c0, c1, c2, c3] := by simpa using hcs
  rw [this]
end
end Go.Proofs.YtcmdhfccdkjenaaGreatDoor
namespace Go.Proofs.YtcmdhfccdkjenaaGreatDoor
open Go.ChangeShapes Go.WideShapes Go.ChangeAt Go.RowKit

def bruijnL : List (String × DataW Unit) := [("math/bits.deBruijn64tab", Rows.laid_math_bits_deBruijn64tab)]
theorem bruijn_tab : (Rows.laid_math_bits_deBruijn64tab : DataW Unit) = Lib.tabData .u8 (Lib.deBruijn64tab.map fun (n : Nat) => (n : Int)) := by rfl
noncomputable def laidWorld (os : Os) : World := World.laidAll Tryz.prog os bruijnL
theorem laid_met (os : Os) (args : Array Value) : laidMet Tryz.prog bruijnL ((laidWorld os).forCall (fun _ _ => 0) ⟨#[], args, []⟩).memory := laidMet_laidAll args (by kernel_rfl) (by kernel_rfl)
theorem tb_of_laid {W : World} (h : laidMet Tryz.prog bruijnL W) : TB W := by
 unfold bruijnL at h
 rw [bruijn_tab] at h
 have ht := Lib.tabIs_of_head (t := 231) (e := 5) (n := 64) (g := 0) (by kernel_rfl) (by kernel_rfl) Tryz.underlying231 Tryz.underlying5 (by kernel_rfl) (by kernel_rfl) h
 intro j hj
 have := ht.cell (g := 0) (by kernel_rfl) j (by rw [List.length_map]; exact hj)
 rw [this, List.getD_eq_getElem?_getD, List.getElem?_map, List.getD_eq_getElem?_getD, List.getElem?_eq_getElem hj]
 rfl
theorem ownK : ownKnob Tryz.prog.godebug = none := by kernel_rfl
section
variable {H : Type} {enc : TypeId × Value → H} {w : World} {base b0 : Nat} {held : Bool} {r : Reach} {v : Value} {d : DataW H} {ps : List MemPlace}
set_option maxRecDepth 100000 in
theorem open_query (hval : Value.okWide Tryz.prog w r b0 45 v) (hd : DataW.Trod enc Tryz.prog w base (fun _ => true) held 45 v d ps) : ∃ q : Qv, v = qv q ∧ q.ok w := by
 obtain ⟨cs, rfl, _⟩ := okWide_struct Tryz.underlying45 hval
 obtain ⟨fuel, hf⟩ := hd
 obtain ⟨q, h, hq⟩ := trod_query hf
 refine ⟨q, ?_, hq⟩
 obtain ⟨l⟩ := cs
 simp only [Value.cells] at h
 rw [show l = q.cells from by simpa using h]; rfl
end
end Go.Proofs.YtcmdhfccdkjenaaGreatDoor
