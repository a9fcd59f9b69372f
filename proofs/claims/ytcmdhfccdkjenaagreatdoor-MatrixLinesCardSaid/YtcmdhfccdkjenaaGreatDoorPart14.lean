/- high.Fresh, prins, Roles, Maximal (printed by gen_highfns.py). high.Eval, Steps, Members (turned out of LowFns by gen_higheval.py). Plain laws: a least relation of statements is a row of pairs; what more statements tell. The statement StateParts: the walk of the law. How two policies differ, in plain Lean. Package delta: without, with, Back, Empty, Same. Whether two differences are the same (printed by gen_dlsame.py). Whether two rows of texts, two queries, two policies are the same: of the same ones. high.Members as a law; the document's example of layer 12. crupperref01.Dec, crupperref01.Fresh. crupperref01.Put, crupperref05.Prins, Names: the rows that are returned are the calls' own (turned by gen_owns.py). crupperref05.SortRoles: the row that is returned is the call's own (turned out of RlSort by gen_owns.py). crupperref12.Fresh, Prins, Roles, Maximal (printed by gen_ref12.py). The document's example of layer 11. The statement LowTells: the walk of the law. crupperlaw12.small; how much a policy's states can tell. simple.Decide: the walk (printed by gen_simdecide.py). simple.Decide, by the least state (printed by gen_simdecide.py). simple.Decide (printed by gen_simdecide.py). simple.Decide, where the policy or the query may not be (printed by gen_simdecidee.py). slices.Equal at rows of texts. What layer 41 (matrix) tells, in plain Lean. sem.Bound; no model takes more steps. cost.power, of, made, Bound, States, Spent (printed by gen_cost.py). -/
import Derived.Test.YtcmdhfccdkjenaaGreatDoorPart13
import Derived.Test.YtcmdhfccdkjenaaGreatDoorPart5
import Derived.Test.YtcmdhfccdkjenaaGreatDoorPart8
import Derived.Test.YtcmdhfccdkjenaaGreatDoorPart7
import Derived.Test.YtcmdhfccdkjenaaGreatDoorPart6
import Derived.Laws.IdiomStrings
namespace Go.Proofs.YtcmdhfccdkjenaaGreatDoor
open Go.RowKit Go.Shelf

structure PolX (w : World) (v0 v1 v2 v3 : Value) (l : List St) (g h : List Rl) (qs : List Qv) (F : Qv → List ByteArray) (PS NS : List ByteArray) : Prop where
  at_ : PolAt w v0 v1 v2 v3 l g h qs
  hl : l.length ≤ 100
  hg : g.length ≤ 100
  hh : h.length ≤ 100
  hq : qs.length ≤ 100
  hF : WhoF w qs F
  hs : allLe l 4294967
  hT : TB w
  eP : newB (allPrins l g h qs F) = PS
  eN : newB (allNames l g h qs) = NS
  hps : PS.length ≤ 60
  hns : NS.length ≤ 60
  rl : ∀ s ∈ l, rightS s = true
  rP : ∀ a ∈ PS, isP 65 90 (bl a) = true
  rN : ∀ n ∈ NS, isP 97 122 (bl n) = true
theorem PolX.below {w w' : World} {v0 v1 v2 v3 : Value} {l : List St} {g h : List Rl} {qs : List Qv} {F : Qv → List ByteArray} {PS NS : List ByteArray} (P : PolX w v0 v1 v2 v3 l g h qs F PS NS) (hb : Below w.heap.size w w') : PolX w' v0 v1 v2 v3 l g h qs F PS NS :=
  ⟨P.at_.below hb, P.hl, P.hg, P.hh, P.hq, P.hF.below hb, P.hs, P.hT.below hb, P.eP, P.eN, P.hps, P.hns, P.rl, P.rP, P.rN⟩
section
variable {w : World} {v0 v1 v2 v3 : Value} {l : List St} {g h : List Rl} {qs : List Qv} {F : Qv → List ByteArray} {PS NS : List ByteArray}
theorem PolX.ascP (P : PolX w v0 v1 v2 v3 l g h qs F PS NS) : AscB PS := by rw [← P.eP]; exact new_asc _
theorem PolX.ascN (P : PolX w v0 v1 v2 v3 l g h qs F PS NS) : AscB NS := by rw [← P.eN]; exact new_asc _
theorem PolX.idemP (P : PolX w v0 v1 v2 v3 l g h qs F PS NS) : newB PS = PS := by rw [← P.eP]; exact new_idem _
theorem PolX.idemN (P : PolX w v0 v1 v2 v3 l g h qs F PS NS) : newB NS = NS := by rw [← P.eN]; exact new_idem _
theorem PolX.putP (P : PolX w v0 v1 v2 v3 l g h qs F PS NS) : newB (PS ++ [freshB PS]) = putX PS := by rw [new_snoc, P.idemP]; rfl
theorem PolX.inAB (P : PolX w v0 v1 v2 v3 l g h qs F PS NS) : ∀ s ∈ l, InAB PS NS s := fun s hs => by
  have := stmt_inAB (g := g) (h := h) (qs := qs) (F := F) hs
  rwa [P.eP, P.eN] at this
set_option maxRecDepth 100000 in
set_option maxHeartbeats 2000000 in
theorem high_Fresh (P : PolX w v0 v1 v2 v3 l g h qs F PS NS) : Calls Tryz.prog 113 #[pv v0 v1 v2 v3] w fun e w' => e = .returned (.string (freshB PS)) ∧ Below w.heap.size w w' := by
  have PP := Lib.hid (fun W (hb : Below w.heap.size w W) => policy_Prins v0 v1 v2 v3 l g h qs W (P.at_.below hb) P.hl P.hg P.hh P.hq F (P.hF.below hb))
  rw [P.eP] at PP
  have HA := Lib.hid P.ascP
  have ID := Lib.hid P.idemP
  have hps := P.hps
  obtain ⟨a0, c0, rfl⟩ := P.at_.rs.form
  obtain ⟨a1, c1, rfl⟩ := P.at_.rg.form
  obtain ⟨a2, c2, rfl⟩ := P.at_.rh.form
  obtain ⟨a3, c3, rfl⟩ := P.at_.rq.form
  have HT := Lib.hid (show OneAt w #[.slice a0 l.length c0, .slice a1 g.length c1, .slice a2 h.length c2, .slice a3 qs.length c3] (w.alloc (.cells #[.slice a0 l.length c0, .slice a1 g.length c1, .slice a2 h.length c2, .slice a3 qs.length c3] 26)) from ⟨Blk.new w _ _, (Below.refl _ _).alloc (Nat.le_refl _) _⟩)
  clear P
  go_enter Tryz.func113, Tryz.ntmps113
  go_wp2_with fail
  refine (PP.out _ HT.out.low).mono ?_
  rintro e w1 ⟨vp, rfl, ho, _, hb1⟩
  obtain ⟨ao, co, rfl⟩ := own_form ho
  have HT := Lib.hid (HT.out.later hb1)
  have HS := Lib.hid (Sl.of_own ho)
  clear ho hb1 PP
  go_wp2_with fail
  refine (names_New (.slice ao PS.length co) PS _ HS.out.a (by omega)).mono ?_
  rintro e w2 ⟨b, rfl, ht, _, hb2⟩
  rw [ID.out] at ht
  have HT := Lib.hid (HT.out.later hb2)
  have HTA := Lib.hid ht
  clear ht hb2 HS ID
  go_wp2_with fail
  refine (names_Fresh1 b PS w2 HTA.out HA.out (by omega)).mono ?_
  rintro e w3 ⟨g3, c3', rfl, hs, hb3⟩
  have HT := Lib.hid (HT.out.later hb3)
  obtain ⟨b4, o4, c4, he, hc4, hm4, hb4, hx4⟩ := hs.pos (by omega)
  simp only [Value.slice.injEq, Option.some.injEq, Addr.mk.injEq, true_and, and_true] at he
  obtain ⟨⟨rfl, rfl⟩, rfl⟩ := he
  have p0 := hx4 0 _ rfl
  simp only [Nat.add_zero] at p0
  clear hs hb3 hx4
  go_wp2
  go_ret
  exact ⟨rfl, HT.out.low⟩
set_option maxRecDepth 100000 in
set_option maxHeartbeats 4000000 in
theorem high_prins (P : PolX w v0 v1 v2 v3 l g h qs F PS NS) : Calls Tryz.prog 154 #[pv v0 v1 v2 v3] w fun e w' => ∃ v, e = .returned v ∧ w'.ownsRow (w.heap.size + 1) 9 1 v (putX PS).length (strs (putX PS)) ∧ Below w.heap.size w w' := by
  have PP := Lib.hid (fun W (hb : Below w.heap.size w W) => policy_Prins v0 v1 v2 v3 l g h qs W (P.at_.below hb) P.hl P.hg P.hh P.hq F (P.hF.below hb))
  rw [P.eP] at PP
  have FR := Lib.hid (fun W (hb : Below w.heap.size w W) => high_Fresh (P.below hb))
  have ID := Lib.hid P.putP
  have hps := P.hps
  have hpx := putX_len PS
  obtain ⟨a0, c0, rfl⟩ := P.at_.rs.form
  obtain ⟨a1, c1, rfl⟩ := P.at_.rg.form
  obtain ⟨a2, c2, rfl⟩ := P.at_.rh.form
  obtain ⟨a3, c3, rfl⟩ := P.at_.rq.form
  have HT := Lib.hid (show OneAt w #[.slice a0 l.length c0, .slice a1 g.length c1, .slice a2 h.length c2, .slice a3 qs.length c3] (w.alloc (.cells #[.slice a0 l.length c0, .slice a1 g.length c1, .slice a2 h.length c2, .slice a3 qs.length c3] 26)) from ⟨Blk.new w _ _, (Below.refl _ _).alloc (Nat.le_refl _) _⟩)
  obtain ⟨infs, his, hs0, hs1, hs2⟩ := info_parts str_info
  have HIS := Lib.hid his
  clear his P
  generalize putX PS = PX at *
  generalize freshB PS = x at *
  go_enter Tryz.func154, Tryz.ntmps154
  go_wp2_with fail
  refine wp_region_held_drew (S := (fun W => ∀ o, W.cell? ⟨w.heap.size, o, none⟩ = (#[.slice a0 l.length c0, .slice a1 g.length c1, .slice a2 h.length c2, .slice a3 qs.length c3] : Array Value)[o]?)) (by kernel_rfl) HT.out.drew.a.1 (fun hHeld => ?_)
  have HT := HT.out.drew
  obtain ⟨wk, hwk⟩ : ∃ W, W = (w.alloc (.cells #[.slice a0 l.length c0, .slice a1 g.length c1, .slice a2 h.length c2, .slice a3 qs.length c3] 26)).drew := ⟨_, rfl⟩
  have hwz : w.heap.size + 1 ≤ wk.heap.size := by rw [hwk]; simp
  rw [← hwk] at HT hHeld ⊢
  clear hwk
  (refine hyes 0 ?_); (refine hyes 2 ?_); (try simp only [Act.put, List.setIfInBounds_toArray, List.set])
  (refine held_call 1 rfl (by kernel_rfl) (fun K hK => ?_); go_simp)
  go_at_call 114; refine (PP.out _ HT.low).mono ?_; rintro e w1 ⟨vp, rfl, ho, _, hb⟩; have HT1 := HT.later hb; obtain ⟨ao, co, hv⟩ := own_form ho; subst hv; clear PP
  (refine hK.out _ _ (HT1.a.1) (fun hHeld => ?_); clear hK K; (try simp only [Act.put, List.setIfInBounds_toArray, List.set]))
  (refine held_call 3 rfl (by kernel_rfl) (fun K hK => ?_); go_simp)
  go_at_call 113; refine (FR.out _ HT1.low).mono ?_; rintro e w2 ⟨rfl, hb2⟩; have HT2 := HT1.later hb2; have ho2 := own_below ho hb2; have hb3 := hb.trans (hb2.mono hb.size); clear FR ho hb hb2
  (refine hK.out _ _ (HT2.a.1) (fun hHeld => ?_); clear hK K; (try simp only [Act.put, List.setIfInBounds_toArray, List.set]))
  (refine held_call 4 rfl (by kernel_rfl) (fun K hK => ?_); go_simp)
  obtain ⟨wn, hwn⟩ : ∃ V, V = w2.alloc (.cells #[.string x] 9) := ⟨_, rfl⟩
  obtain ⟨b8, hb8⟩ : ∃ b, b = w2.heap.size := ⟨_, rfl⟩
  rw [← hwn, ← hb8]
  have hbq : Below w2.heap.size w2 wn := by rw [hwn]; exact (Below.refl _ _).alloc (Nat.le_refl _) _
  have Hc : Sl wn 1 (.slice (some ⟨b8, 0, none⟩) 1 1) 1 (strs [x]) := by rw [hwn]; exact Sl.new w2 [.string x] 9 1 1 b8 hb8 rfl (by simp [maxLen])
  have HT3 := HT2.later hbq
  have ho3 := own_below ho2 hbq
  have hb4 := hb3.trans (hbq.mono hb3.size)
  clear hbq hwn hb8 ho2 hb3
  (refine hK.out _ _ (HT3.a.1) (fun hHeld => ?_); clear hK K; (try simp only [Act.put, List.setIfInBounds_toArray, List.set]))
  refine held_call 5 rfl (by kernel_rfl) (fun K hK => ?_)
  refine step_row rfl _ _ 38 rfl wk.heap.size 9 infs _ 1 16 Tryz.underlying38 HIS.out hs0 hs1 hs2 (Nat.le_of_ble_eq_true rfl) rfl (Nat.le_of_ble_eq_true rfl) _ PS.length _ rfl ho3 _ 1 _ rfl Hc.a (strs_one _) (by omega) hb4.size ?_
  intro a5 c5 w5 ho5 hg5
  obtain ⟨ho6, hb6⟩ := push_txts (ms := [x]) hb4 ho3 ho5 hg5
  have HT5 := HT.later hb6
  have HS := Lib.hid (show Sl w5 1 (.slice a5 (PS.length + 1) c5) (PS ++ [x]).length (strs (PS ++ [x])) by rw [List.length_append]; exact Sl.of_own ho6)
  clear ho3 ho5 hg5 ho6 hb6 hb4 HT3 HT2 HT1
  (refine hK.out _ _ (HT5.a.1) (fun hHeld => ?_); clear hK K; (try simp only [Act.put, List.setIfInBounds_toArray, List.set]))
  (refine held_call 6 rfl (by kernel_rfl) (fun K hK => ?_); go_simp)
  go_at_call 147; refine (names_New _ (PS ++ [x]) w5 HS.out.a (by rw [List.length_append, List.length_singleton]; omega)).mono ?_; rintro e w6 ⟨b, rfl, ht, _, hb⟩; rw [ID.out] at ht; have HT6 := HT5.later hb; have HTA := Lib.hid ht; clear ht hb HT5
  (refine hK.out _ _ (HT6.a.1) (fun hHeld => ?_); clear hK K; (try simp only [Act.put, List.setIfInBounds_toArray, List.set]))
  (refine held_call 7 rfl (by kernel_rfl) (fun K hK => ?_); go_simp)
  go_at_call 170; refine (tab_All b PX w6 HTA.out (by omega)).mono ?_; rintro e w7 ⟨v7, rfl, ho7, hb⟩; have HT7 := HT6.later hb; have hz := HT6.a.2.2; have HO7 := Lib.hid (show w7.ownsRow (w.heap.size + 1) 9 1 v7 PX.length (strs PX) from own_mono ho7 (by omega)); obtain ⟨av, cv, hv⟩ := own_form ho7; subst hv; clear ho7 hb HT6
  (refine hK.out _ _ (HT7.a.1) (fun hHeld => ?_); clear hK K; (try simp only [Act.put, List.setIfInBounds_toArray, List.set]))
  (refine hyes 8 ?_); (try simp only [Act.put, List.setIfInBounds_toArray, List.set])
  refine wpAnyH_done (by kernel_rfl) ?_ _
  have HT := Lib.hid HT7
  clear HT7
  go_wp2
  go_ret
  exact ⟨_, rfl, HO7.out, HT.out.low⟩
set_option maxHeartbeats 1000000 in
theorem high_Roles1 (c : Nat) (u0 u1 u2 u3 : Value) (g : List Rl) (x : Rl) (w : World) (hc : ∀ o, w.cell? ⟨c, o, none⟩ = (#[u0, u1, u2, u3] : Array Value)[o]?) (hg : SlA w 2 u1 g.length (g.flatMap Rl.cells)) :
    Calls Tryz.prog 202 #[rv x, .pointer (some ⟨c, 0, none⟩)] w fun e w' => e = .returned (.bool (hasR g x)) ∧ Below w.heap.size w w' := by
  have H := Lib.hid (fun W (hb : Below w.heap.size w W) => policy_Has u1 g x W (hg.below hb))
  have hlt : c < w.heap.size := World.block_lt_of_cell? w (u := u0) _ (hc 0)
  have q1 := hc 1
  simp only [List.getElem?_toArray, List.getElem?_cons_succ, List.getElem?_cons_zero] at q1
  generalize hasR g x = r at H ⊢
  obtain ⟨bo, bc, hvb⟩ := hg.form
  subst hvb
  obtain ⟨x1, x2⟩ := x
  have HB := Lib.hid ((Below.refl _ w).alloc (Nat.le_refl _) (.cells #[.string x1, .string x2] 28))
  clear hg hc
  go_enter Tryz.func202, Tryz.ntmps202
  go_wp2_with fail
  refine (H.out _ HB.out).mono ?_
  rintro e w1 ⟨rfl, hb1⟩
  have HB1 := Lib.hid (HB.out.trans (hb1.mono HB.out.size))
  clear hb1
  go_wp2
  go_ret
  exact ⟨rfl, HB1.out⟩
theorem allR_snoc {A B : List ByteArray} {k : Nat} (hk : k < A.length) : allR (A.take (k + 1)) B = allR (A.take k) B ++ B.map (fun n => ⟨A[k], n⟩) := by
  unfold allR
  rw [List.take_succ_eq_append_getElem hk, List.flatMap_append]
  simp
theorem memsX_snoc {R : List Rl} {A : List ByteArray} {k : Nat} (hk : k < R.length) : memsX (R.take (k + 1)) A = memsX (R.take k) A ++ A.map (memS R[k]) := by
  unfold memsX
  rw [List.take_succ_eq_append_getElem hk, List.flatMap_append]
  simp
theorem map_snocT {α β : Type} {B : List α} {f : α → β} {k : Nat} (hk : k < B.length) : (B.take (k + 1)).map f = (B.take k).map f ++ [f B[k]] := by
  rw [List.take_succ_eq_append_getElem hk, List.map_append]; rfl
theorem own_text {w : World} {B n : Nat} {a : Option Addr} {c : Nat} {xs : List ByteArray} (h : w.ownsRow B 9 1 (.slice a n c) n (strs xs)) {k : Nat} (hk : k < xs.length) (hn : n = xs.length) :
    ∃ b o, a = some ⟨b, o, none⟩ ∧ w.cell? ⟨b, o + k, none⟩ = some (.string xs[k]) ∧ n ≤ c ∧ c ≤ 9223372036854775807 ∧ b < w.heap.size := by
  obtain ⟨b, o, c', e, h1, h2, h3, h4⟩ := (Sl.of_own h).pos (by omega)
  simp only [Value.slice.injEq, true_and] at e
  obtain ⟨rfl, rfl⟩ := e
  exact ⟨b, o, rfl, h4 k _ (strs_get hk), h1, h2, h3⟩
set_option maxRecDepth 100000 in
set_option maxHeartbeats 8000000 in
theorem high_Roles (P : PolX w v0 v1 v2 v3 l g h qs F PS NS) (h6 : PS.length ≤ 16) (h4 : NS.length ≤ 12) : Calls Tryz.prog 155 #[pv v0 v1 v2 v3] w fun e w' => ∃ v, e = .returned v ∧ Sl w' 2 v (rolesX PS NS g).length ((rolesX PS NS g).flatMap Rl.cells) ∧ Below w.heap.size w w' := by
  have hmax : maxLen = 9223372036854775807 := by decide
  have eg : ∀ args w, (callFunc 202 args).run Tryz.prog w = .ok (.enter 202 args) w := enters_of Tryz.func202 (by kernel_rfl) rfl
  have PN := Lib.hid (fun W (hb : Below w.heap.size w W) => policy_Names v0 v1 v2 v3 l g h qs W (P.at_.below hb) P.hl P.hg P.hh P.hq)
  rw [P.eN] at PN
  have PR := Lib.hid (fun W (hb : Below w.heap.size w W) => high_prins (P.below hb))
  have hpx := putX_len PS
  have HG := Lib.hid (P.at_.rg)
  have RES := Lib.hid (show (ordR (allR (putX PS) NS)).filter (fun r => !hasR g r) = rolesX PS NS g by unfold rolesX; rw [ord_filterR])
  obtain ⟨a0, c0, rfl⟩ := P.at_.rs.form
  obtain ⟨a1, c1, rfl⟩ := P.at_.rg.form
  obtain ⟨a2, c2, rfl⟩ := P.at_.rh.form
  obtain ⟨a3, c3, rfl⟩ := P.at_.rq.form
  have HT := Lib.hid (show OneAt w #[.slice a0 l.length c0, .slice a1 g.length c1, .slice a2 h.length c2, .slice a3 qs.length c3] (w.alloc (.cells #[.slice a0 l.length c0, .slice a1 g.length c1, .slice a2 h.length c2, .slice a3 qs.length c3] 26)) from ⟨Blk.new w _ _, (Below.refl _ _).alloc (Nat.le_refl _) _⟩)
  have DF := Lib.hid (fun W b cap (R : List Rl) (hlow : OneAt w #[.slice a0 l.length c0, .slice a1 g.length c1, .slice a2 h.length c2, .slice a3 qs.length c3] W) (hne : w.heap.size + 1 ≤ b) (hR : R.length ≤ 1000) (hc : R.length ≤ cap) (hcm : cap ≤ 9223372036854775807) (hbs : b < W.heap.size) hx hf =>
    rl_DeleteFunc b 0 cap R W hR hc hcm hbs hx hf 202 #[.pointer (some ⟨w.heap.size, 0, none⟩)] (fun s => hasR g s) eg (fun x V hV => by
      have hV' : OneAt w #[.slice a0 l.length c0, .slice a1 g.length c1, .slice a2 h.length c2, .slice a3 qs.length c3] V := ⟨hlow.a.grown hV (by intro e; cases e; omega), below_of_grownS hlow.low (by omega) hV⟩
      exact high_Roles1 w.heap.size _ (.slice a1 g.length c1) _ _ g x V hV'.a.1 (HG.out.below hV'.low)))
  have DN := Lib.hid (fun W => rl_DeleteNil W 202 #[.pointer (some ⟨w.heap.size, 0, none⟩)] eg)
  clear P eg HG
  generalize putX PS = PX at *
  generalize rolesX PS NS g = RX at *
  have hp7 : PX.length ≤ 17 := by omega
  go_enter Tryz.func155, Tryz.ntmps155
  go_wp2_with fail
  refine (PR.out _ HT.out.low).mono ?_
  rintro e w1 ⟨vp, rfl, ho, hb1⟩
  obtain ⟨ao, co, rfl⟩ := own_form ho
  have HT := Lib.hid (HT.out.later hb1)
  have HP := Lib.hid ho
  clear ho hb1 PR
  go_wp2_with fail
  go_loopw [3, 11] (fun vo i wr => ∃ (k : Nat) (rs : List Rl), k ≤ PX.length ∧ i = .int .i64 k ∧ Hid (rs = allR (PX.take k) NS) ∧ Hid (OneAt w #[.slice a0 l.length c0, .slice a1 g.length c1, .slice a2 h.length c2, .slice a3 qs.length c3] wr) ∧ Hid (wr.ownsRow (w.heap.size + 1) 28 2 vo rs.length (rs.flatMap Rl.cells)) ∧ Hid (∃ B, wr.ownsRow B 9 1 (.slice ao PX.length co) PX.length (strs PX))) (fun _ i _ => PX.length - (intOf i).toNat)
  case atStart => exact ⟨0, [], by omega, rfl, Lib.hid rfl, HT, Lib.hid (World.ownsRow_nil _ _ _ _), Lib.hid ⟨_, HP.out⟩⟩
  case round =>
    clear HT HP
    obtain ⟨k, rs, hk, rfl, HE, HT, HO, HP⟩ := hrel
    obtain ⟨BP, hop⟩ := HP.out
    have HP := Lib.hid hop
    obtain ⟨oo, oc, rfl⟩ := own_form HO.out
    obtain ⟨cs, fs, zs⟩ := HT.out.a
    have hrl : rs.length ≤ 17 * 12 := by rw [HE.out, allR_len]; exact Nat.mul_le_mul (by have := List.length_take_le k PX; omega) h4
    by_cases hlt : k < PX.length
    · obtain ⟨b1, o1, rfl, p0, hc1, hm1, hb1⟩ := own_text hop hlt rfl
      have HF := Lib.hid (allR_snoc (B := NS) hlt)
      clear hop
      generalize PX[k] = x at *
      go_wp2_with fail
      refine (PN.out _ HT.out.low).mono ?_
      rintro e w2 ⟨vn, rfl, hon, _, hb2⟩
      obtain ⟨an, cn, rfl⟩ := own_form hon
      have HT2 := Lib.hid (HT.out.later hb2)
      have HO2 := Lib.hid (own_below HO.out hb2)
      have HP2 := Lib.hid (own_below HP.out hb2)
      have HN2 := Lib.hid hon
      clear hon hb2 cs fs zs p0 HT HO HP
      go_wp2_with fail
      go_loopw [3, 18] (fun vo i wr2 => ∃ (j : Nat) (ss : List Rl), j ≤ NS.length ∧ i = .int .i64 j ∧ Hid (ss = rs ++ (NS.take j).map (fun n => ⟨x, n⟩)) ∧ Hid (OneAt w #[.slice a0 l.length c0, .slice a1 g.length c1, .slice a2 h.length c2, .slice a3 qs.length c3] wr2) ∧ Hid (wr2.ownsRow (w.heap.size + 1) 28 2 vo ss.length (ss.flatMap Rl.cells)) ∧ Hid (wr2.ownsRow BP 9 1 (.slice (some ⟨b1, o1, none⟩) PX.length co) PX.length (strs PX)) ∧ Hid (wr2.ownsRow wr.heap.size 9 1 (.slice an NS.length cn) NS.length (strs NS))) (fun _ i _ => NS.length - (intOf i).toNat)
      case atStart => exact ⟨0, rs, by omega, rfl, Lib.hid (by simp), HT2, HO2, HP2, HN2⟩
      case round =>
        clear HT2 HO2 HP2 HN2
        obtain ⟨j, ss, hj, rfl, HE2, HT, HO, HP, HN⟩ := hrel
        obtain ⟨oo, oc, rfl⟩ := own_form HO.out
        obtain ⟨cs, fs, zs⟩ := HT.out.a
        have hsl : ss.length ≤ rs.length + 12 := by rw [HE2.out, List.length_append, List.length_map]; have := List.length_take_le j NS; omega
        by_cases hlt2 : j < NS.length
        · obtain ⟨b2, o2, rfl, p0, hc2, hm2, hb2⟩ := own_text HN.out hlt2 rfl
          have HF2 := Lib.hid (map_snocT (f := fun n => (⟨x, n⟩ : Rl)) hlt2)
          generalize NS[j] = y at *
          go_wp2_with (at_builtin; refine halt_ ?_)
          unfold Halt_
          refine app_own Tryz.underlying23 rl_info' rfl (by decide) (by decide) rfl _ _ rfl (w.heap.size + 1) rfl (HO.out.alloc _) [.string x, .string y] rfl (heap_new1 _ _) rfl (rlc_one ⟨x, y⟩) ?_ ?_ ?_
          · omega
          · have := HT.out.a.2.2; simp; omega
          intro a' cap' w3 hown' hgrow
          obtain ⟨q1, q2⟩ := push_at Rl.cells (x := ⟨x, y⟩) HT.out HO.out hown' hgrow
          have HP3 := Lib.hid (own_far (HP.out.alloc _) (HO.out.alloc _) hgrow (by decide))
          have HN3 := Lib.hid (own_far (HN.out.alloc _) (HO.out.alloc _) hgrow (by decide))
          have HO3 := Lib.hid q1
          have HT3 := Lib.hid q2
          clear hown' hgrow q1 q2 cs fs zs p0
          go_wp2_with fail
          exact ⟨⟨j + 1, ss ++ [⟨x, y⟩], by omega, by go_num, Lib.hid (by rw [HF2.out, HE2.out]; simp), HT3, HO3, HP3, HN3⟩, by simp [intOf]; omega⟩
        · have HES := Lib.hid (show ss = allR (PX.take (k + 1)) NS by rw [HF.out, HE2.out, HE.out, List.take_of_length_le (show NS.length ≤ j by omega)])
          go_wp2_with fail
          exact ⟨⟨k + 1, ss, by omega, by go_num, HES, HT, HO, Lib.hid ⟨_, HP.out⟩⟩, by simp [intOf]; omega⟩
    · have HES := Lib.hid (show rs = allR PX NS by rw [HE.out, List.take_of_length_le (show PX.length ≤ k by omega)])
      have HS := Lib.hid (Sl.of_own HO.out)
      go_wp2_with fail
      refine (pol_SortRoles (.slice oo rs.length oc) rs wr HS.out.a (by omega)).mono ?_
      rintro e w4 ⟨v4, rfl, ho4, hb4⟩
      have HT4 := Lib.hid (HT.out.later hb4)
      have hrl4 := ord_lenR rs
      unfold ordR at hrl4
      rw [HES.out] at ho4 hrl4
      have hrx := RES.out
      unfold ordR at hrx
      have hz := HT.out.a.2.2
      clear HT HO HP HS
      rcases ho4 with ⟨rfl, h0⟩ | ⟨gg, cap, rfl, q1, q2, q3, q4, q5, q6⟩
      · have F := Lib.hid (show RX = [] by rw [← hrx, h0]; rfl)
        clear hb4 h0 hrx hrl4 DF cs fs zs
        obtain ⟨cs, fs, zs⟩ := HT4.out.a
        go_wp2_with fail
        refine (DN.out _).mono ?_
        rintro e w5 ⟨rfl, hb5⟩
        have HB5 := Lib.hid (HT4.out.later hb5)
        clear hb5
        go_wp2
        go_ret
        exact ⟨_, rfl, by rw [F.out]; exact Sl.nil _ _, HB5.out.low⟩
      · have D := Lib.hid (DF.out w4 gg cap _ HT4.out (by omega) (by rw [← HES.out] at hrl4 ⊢; omega) q3 q4 q2 q5 q6)
        have hmc : RX.length ≤ cap := by rw [← hrx]; exact Nat.le_trans (List.length_filter_le _ _) q3
        rw [hrx] at D
        have hlen := Lib.hid (show (insAllR [] (allR PX NS)).length = (insAllR [] (allR PX NS)).length from rfl)
        generalize insAllR [] (allR PX NS) = SR at *
        clear hb4 hrx hrl4 DF DN cs fs zs q5 q6
        obtain ⟨cs, fs, zs⟩ := HT4.out.a
        go_wp2_with fail
        refine D.out.mono ?_
        rintro e w5 ⟨rfl, hx, hg2⟩
        have HX := Lib.hid hx
        have HG := Lib.hid hg2
        clear hx hg2
        go_wp2
        go_ret
        exact ⟨_, rfl, ⟨flat_len _ _ Rl.cells_len _, by omega, .inr ⟨gg, 0, cap, rfl, hmc, by omega, Nat.lt_of_lt_of_le q2 HG.out.size, HX.out⟩⟩, below_of_grownS HT4.out.low (by omega) HG.out⟩
set_option maxRecDepth 100000 in
set_option maxHeartbeats 8000000 in
theorem high_Maximal (P : PolX w v0 v1 v2 v3 l g h qs F PS NS) (h6 : PS.length ≤ 16) (h4 : NS.length ≤ 12) : Calls Tryz.prog 96 #[pv v0 v1 v2 v3] w fun e w' => ∃ v, e = .returned v ∧ Sl w' 9 v (maxS l g PS NS).length ((maxS l g PS NS).flatMap St.cells) ∧ Below w.heap.size w w' := by
  have RO := Lib.hid (fun W (hb : Below w.heap.size w W) => high_Roles (P.below hb) h6 h4)
  have PR := Lib.hid (fun W (hb : Below w.heap.size w W) => high_prins (P.below hb))
  have hpx := putX_len PS
  have HL := Lib.hid P.at_.rs
  have hl := P.hl
  have hrx : (rolesX PS NS g).length ≤ 17 * 12 := Nat.le_trans (rolesX_len PS NS g) (Nat.mul_le_mul (by omega) h4)
  have RES := Lib.hid (show ord (l ++ memsX (rolesX PS NS g) (putX PS)) = maxS l g PS NS from rfl)
  obtain ⟨a0, c0, rfl⟩ := P.at_.rs.form
  obtain ⟨a1, c1, rfl⟩ := P.at_.rg.form
  obtain ⟨a2, c2, rfl⟩ := P.at_.rh.form
  obtain ⟨a3, c3, rfl⟩ := P.at_.rq.form
  have HT := Lib.hid (show OneAt w #[.slice a0 l.length c0, .slice a1 g.length c1, .slice a2 h.length c2, .slice a3 qs.length c3] (w.alloc (.cells #[.slice a0 l.length c0, .slice a1 g.length c1, .slice a2 h.length c2, .slice a3 qs.length c3] 26)) from ⟨Blk.new w _ _, (Below.refl _ _).alloc (Nat.le_refl _) _⟩)
  clear P
  generalize putX PS = PX at *
  generalize rolesX PS NS g = RX at *
  have hp7 : PX.length ≤ 17 := by omega
  generalize maxS l g PS NS = ms at *
  go_enter Tryz.func96, Tryz.ntmps96
  go_wp2_with fail
  refine (PR.out _ HT.out.low).mono ?_
  rintro e w1 ⟨vp, rfl, ho, hb1⟩
  obtain ⟨ao, co, rfl⟩ := own_form ho
  have HT := Lib.hid (HT.out.later hb1)
  have HP := Lib.hid ho
  clear ho hb1 PR
  obtain ⟨cs, fs, zs⟩ := HT.out.a
  go_wp2_with fail
  refine (RO.out _ HT.out.low).mono ?_
  rintro e w2 ⟨vr, rfl, hsr, hb2⟩
  obtain ⟨ar, cr, rfl⟩ := hsr.form
  have HP := Lib.hid (own_below HP.out hb2)
  have HT := Lib.hid (HT.out.later hb2)
  have HR := Lib.hid hsr
  clear hsr hb2 RO cs fs zs
  go_wp2_with fail
  have hzw : w.heap.size ≤ w2.heap.size := HT.out.low.size
  go_loopw [3, 14] (fun vo i wr => ∃ (k : Nat) (rs : List St), k ≤ RX.length ∧ i = .int .i64 k ∧ Hid (rs = memsX (RX.take k) PX) ∧ Hid (Below w2.heap.size w2 wr) ∧ Hid (wr.ownsRow w2.heap.size 35 9 vo rs.length (rs.flatMap St.cells))) (fun _ i _ => RX.length - (intOf i).toNat)
  case atStart => exact ⟨0, [], by omega, rfl, Lib.hid rfl, Lib.hid (Below.refl _ _), Lib.hid (World.ownsRow_nil _ _ _ _)⟩
  case round =>
    obtain ⟨k, rs, hk, rfl, HE, HB, HO⟩ := hrel
    obtain ⟨oo, oc, rfl⟩ := own_form HO.out
    have hrl : rs.length ≤ 204 * 17 := by rw [HE.out, memsX_len]; exact Nat.mul_le_mul (by have := List.length_take_le k RX; omega) hp7
    by_cases hlt : k < RX.length
    · obtain ⟨b1, o1, e1, he1, hc1, hm1', hb1, hx1⟩ := (HR.out.below HB.out).pos (by omega)
      simp only [Value.slice.injEq, true_and] at he1
      obtain ⟨rfl, rfl⟩ := he1
      obtain ⟨p0, p1⟩ := rl_cell hx1 k hlt
      have HF := Lib.hid (memsX_snoc (A := PX) hlt)
      clear hx1
      generalize RX[k] = x at *
      obtain ⟨x1, x2⟩ := x
      have HB2 := Lib.hid (HB.out.alloc HB.out.size (.cells #[.string x1, .string x2] 28))
      have HO2 := Lib.hid (HO.out.alloc (.cells #[.string x1, .string x2] 28))
      have HX2 := Lib.hid (show CAt (wr.alloc (.cells #[.string x1, .string x2] 28)) wr.heap.size #[.string x1, .string x2] 28 from heap_new1 _ _)
      go_wp2_with fail
      go_loopw [3, 20] (fun vo i wr2 => ∃ (j : Nat) (ss : List St), j ≤ PX.length ∧ i = .int .i64 j ∧ Hid (ss = rs ++ (PX.take j).map (memS ⟨x1, x2⟩)) ∧ Hid (Below w2.heap.size w2 wr2) ∧ Hid (wr2.ownsRow w2.heap.size 35 9 vo ss.length (ss.flatMap St.cells)) ∧ Hid (CAt wr2 wr.heap.size #[.string x1, .string x2] 28)) (fun _ i _ => PX.length - (intOf i).toNat)
      case atStart => exact ⟨0, rs, by omega, rfl, Lib.hid (by simp), HB2, HO2, HX2⟩
      case round =>
        clear HB2 HO2 HX2
        obtain ⟨j, ss, hj, rfl, HE2, HB, HO, HX⟩ := hrel
        obtain ⟨oo, oc, rfl⟩ := own_form HO.out
        obtain ⟨cs, fs, zs⟩ := HX.out.blk
        have hsl : ss.length ≤ rs.length + 17 := by rw [HE2.out, List.length_append, List.length_map]; have := List.length_take_le j PX; omega
        by_cases hlt2 : j < PX.length
        · obtain ⟨b2, o2, rfl, q0, hc2, hm2, hb2⟩ := own_text (own_below HP.out HB.out) hlt2 rfl
          have HF2 := Lib.hid (map_snocT (f := memS ⟨x1, x2⟩) hlt2)
          generalize PX[j] = y at *
          go_wp2_with (at_builtin; refine halt_ ?_)
          unfold Halt_
          refine app_own Tryz.underlying22 st_info rfl (by decide) (by decide) rfl _ _ rfl w2.heap.size rfl (HO.out.alloc _) [.int .i64 1, .string x1, .string x2, .string y, .string emp, .string emp, .string emp, .string emp, .string emp] rfl (heap_new1 _ _) rfl (st1s _ _ _ _ _ _ _ _ _) ?_ ?_ ?_
          · omega
          · have := HB.out.size; simp; omega
          intro a' cap' w3 hown' hgrow
          have HX3 := Lib.hid ((HX.out.alloc _).grown (HO.out.alloc _) hgrow (by decide))
          have HB3 := Lib.hid (below_own (HB.out.alloc HB.out.size _) (HO.out.alloc _) hgrow (HB.out.alloc HB.out.size (.cells #[.int .i64 1, .string x1, .string x2, .string y, .string emp, .string emp, .string emp, .string emp, .string emp] 35)).size (Nat.le_refl _))
          have HO3 := Lib.hid (show w3.ownsRow w2.heap.size 35 9 (.slice a' (ss.length + 1) cap') (ss ++ [memS ⟨x1, x2⟩ y]).length ((ss ++ [memS ⟨x1, x2⟩ y]).flatMap St.cells) by rw [List.length_append, List.flatMap_append]; exact hown')
          clear hown' hgrow cs fs zs q0
          go_wp2_with fail
          exact ⟨⟨j + 1, ss ++ [memS ⟨x1, x2⟩ y], by omega, by go_num, Lib.hid (by rw [HF2.out, HE2.out]; simp), HB3, HO3, HX3⟩, by simp [intOf]; omega⟩
        · have HES := Lib.hid (show ss = memsX (RX.take (k + 1)) PX by rw [HF.out, HE2.out, HE.out, List.take_of_length_le (show PX.length ≤ j by omega)])
          go_wp2_with fail
          exact ⟨⟨k + 1, ss, by omega, by go_num, HES, HB, HO⟩, by simp [intOf]; omega⟩
    · have HES := Lib.hid (show rs = memsX RX PX by rw [HE.out, List.take_of_length_le (show RX.length ≤ k by omega)])
      have HS := Lib.hid (Sl.of_own HO.out)
      have HT := Lib.hid (HT.out.later HB.out)
      obtain ⟨cs, fs, zs⟩ := HT.out.a
      have HLw := Lib.hid (HL.out.below HT.out.low)
      go_wp2_with fail
      refine (state_Union (.slice a0 l.length c0) (.slice oo rs.length oc) l rs wr HLw.out HS.out.a (by omega) (by omega)).mono ?_
      rintro e w4 ⟨v4, rfl, hs4, hb4⟩
      rw [HES.out, RES.out] at hs4
      obtain ⟨a4, c4', rfl⟩ := hs4.form
      have HT := Lib.hid (HT.out.later hb4)
      have HS4 := Lib.hid hs4
      clear hs4 hb4 cs fs zs
      go_wp2
      go_ret
      exact ⟨_, rfl, HS4.out, HT.out.low⟩
end
end Go.Proofs.YtcmdhfccdkjenaaGreatDoor
namespace Go.Proofs.YtcmdhfccdkjenaaGreatDoor
open Go.RowKit Go.Shelf

section
variable {w : World} {v0 v1 v2 v3 : Value} {l : List St} {g h : List Rl} {qs : List Qv} {F : Qv → List ByteArray} {PS NS : List ByteArray}
set_option maxRecDepth 100000 in
set_option maxHeartbeats 4000000 in
theorem high_Eval (P : PolX w v0 v1 v2 v3 l g h qs F PS NS) (h6 : PS.length ≤ 16) (h4 : NS.length ≤ 12) :
    Calls Tryz.prog 95 #[pv v0 v1 v2 v3] w fun e w' => ∃ t M fs st, e = .returned (.tuple #[.pointer (some ⟨t, 0, none⟩), .pointer (some ⟨M, 0, none⟩)]) ∧ TmAt w' t M (putX PS) NS (maxS l g PS NS) fs st ∧ Below w.heap.size w w' := by
  have HT0 := Lib.hid (show OneAt w #[v0, v1, v2, v3] (w.alloc (.cells #[v0, v1, v2, v3] 26)) from ⟨Blk.new w _ _, (Below.refl _ _).alloc (Nat.le_refl _) _⟩)
  have TF := Lib.hid (fun vm more W (hb : Below w.heap.size w W) (hm : SlA W 1 vm more.length (strs more)) hml => table_For v0 v1 v2 v3 vm l g h qs more W (P.at_.below hb) P.hl P.hg P.hh P.hq F (P.hF.below hb) hm hml)
  rw [P.eP, P.eN, P.idemN] at TF
  have FR := Lib.hid (fun W (hb : Below w.heap.size w W) => high_Fresh (P.below hb))
  have MN := Lib.hid (fun W (hb : Below w.heap.size w W) => high_Maximal (P.below hb) h6 h4)
  have HTB := Lib.hid P.hT
  have EP := Lib.hid P.putP
  have hml := maxS_len l g PS NS
  have hl := P.hl
  have hmn : (PS.length + 1) * (PS.length + 1) * NS.length ≤ 17 * 17 * 12 := Nat.mul_le_mul (Nat.mul_le_mul (by omega) (by omega)) h4
  have hms : Hid (allLe (maxS l g PS NS) 4294967) := Lib.hid (maxS_le P.hs P.rP P.rN P.hps)
  have hpx := putX_len PS
  obtain ⟨a0, c0, rfl⟩ := P.at_.rs.form
  obtain ⟨a1, c1, rfl⟩ := P.at_.rg.form
  obtain ⟨a2, c2, rfl⟩ := P.at_.rh.form
  obtain ⟨a3, c3, rfl⟩ := P.at_.rq.form
  clear P
  generalize maxS l g PS NS = ms at *
  generalize putX PS = PX at *
  generalize freshB PS = x at *
  have hrl := rulesN_len PX NS ms
  go_enter Tryz.func95, Tryz.ntmps95
  go_wp2_with fail
  refine wp_region_held_drew (S := (fun W => ∀ o, W.cell? ⟨w.heap.size, o, none⟩ = (#[.slice a0 l.length c0, .slice a1 g.length c1, .slice a2 h.length c2, .slice a3 qs.length c3] : Array Value)[o]?)) (by kernel_rfl) HT0.out.drew.a.1 (fun hHeld => ?_)
  have HT := HT0.out.drew
  obtain ⟨wk, hwk⟩ : ∃ W, W = (w.alloc (.cells #[.slice a0 l.length c0, .slice a1 g.length c1, .slice a2 h.length c2, .slice a3 qs.length c3] 26)).drew := ⟨_, rfl⟩
  rw [← hwk] at HT hHeld ⊢
  clear hwk HT0
  (refine hyes 0 ?_); (refine hyes 1 ?_); (try simp only [Act.put, List.setIfInBounds_toArray, List.set])
  (refine held_call 2 rfl (by kernel_rfl) (fun K hK => ?_); go_simp)
  go_at_call 113; refine (FR.out _ HT.low).mono ?_; rintro e w2 ⟨rfl, hb2⟩; have HT := HT.later hb2; clear FR hb2
  (refine hK.out _ _ (HT.a.1) (fun hHeld => ?_); clear hK K; (try simp only [Act.put, List.setIfInBounds_toArray, List.set]))
  (refine held_call 3 rfl (by kernel_rfl) (fun K hK => ?_); go_simp)
  obtain ⟨wn, hwn⟩ : ∃ V, V = w2.alloc (.cells #[.string x] 9) := ⟨_, rfl⟩
  obtain ⟨b8, hb8⟩ : ∃ b, b = w2.heap.size := ⟨_, rfl⟩
  rw [← hwn, ← hb8]
  have hbq : Below w2.heap.size w2 wn := by rw [hwn]; exact (Below.refl _ _).alloc (Nat.le_refl _) _
  have Hc : Sl wn 1 (.slice (some ⟨b8, 0, none⟩) 1 1) 1 (strs [x]) := by rw [hwn]; exact Sl.new w2 [.string x] 9 1 1 b8 hb8 rfl (by simp [maxLen])
  have HT := HT.later hbq
  clear hbq hwn hb8
  (refine hK.out _ _ (HT.a.1) (fun hHeld => ?_); clear hK K; (try simp only [Act.put, List.setIfInBounds_toArray, List.set]))
  (refine held_call 4 rfl (by kernel_rfl) (fun K hK => ?_); go_simp)
  go_at_call 140; refine (TF.out _ [x] _ HT.low Hc.a (by simp)).mono ?_; rintro e w4 ⟨t, ba, bb, rfl, ht, hb4⟩; rw [EP.out] at ht; have HT := HT.later hb4; have HTb := Lib.hid ht; clear ht hb4 TF Hc EP
  (refine hK.out _ _ (HT.a.1) (fun hHeld => ?_); clear hK K; (try simp only [Act.put, List.setIfInBounds_toArray, List.set]))
  (refine hyes 5 ?_); (try simp only [Act.put, List.setIfInBounds_toArray, List.set])
  refine wpAnyH_done (by kernel_rfl) ?_ _
  have HT1 := Lib.hid HT
  clear HT
  go_wp2_with fail
  refine wp_region_held_drew (S := (fun W => ∀ o, W.cell? ⟨w.heap.size, o, none⟩ = (#[.slice a0 l.length c0, .slice a1 g.length c1, .slice a2 h.length c2, .slice a3 qs.length c3] : Array Value)[o]?)) (by kernel_rfl) HT1.out.drew.a.1 (fun hHeld => ?_)
  have HT := HT1.out.drew
  have HTb := Lib.hid (HTb.out.below (below_drew (Below.refl _ w4)))
  obtain ⟨wk, hwk⟩ : ∃ W, W = w4.drew := ⟨_, rfl⟩
  rw [← hwk] at HT HTb hHeld ⊢
  clear hwk HT1
  (refine hyes 0 ?_); (refine hyes 1 ?_); (refine hyes 4 ?_); (refine hyes 7 ?_); (refine hyes 8 ?_); (try simp only [Act.put, List.setIfInBounds_toArray, List.set])
  (refine held_call 2 rfl (by kernel_rfl) (fun K hK => ?_); go_simp)
  go_at_call 89; refine (table_Prins HTb.out).mono ?_; rintro e w2 ⟨rfl, rfl⟩
  (refine hK.out _ _ (HT.a.1) (fun hHeld => ?_); clear hK K; (try simp only [Act.put, List.setIfInBounds_toArray, List.set]))
  (refine held_call 3 rfl (by kernel_rfl) (fun K hK => ?_); go_simp)
  go_at_call 142; refine (tab_Len ba PX _ HTb.out.ta).mono ?_; rintro e w2 ⟨rfl, rfl⟩
  (refine hK.out _ _ (HT.a.1) (fun hHeld => ?_); clear hK K; (try simp only [Act.put, List.setIfInBounds_toArray, List.set]))
  (refine held_call 5 rfl (by kernel_rfl) (fun K hK => ?_); go_simp)
  go_at_call 143; refine (table_Links HTb.out).mono ?_; rintro e w2 ⟨rfl, rfl⟩
  (refine hK.out _ _ (HT.a.1) (fun hHeld => ?_); clear hK K; (try simp only [Act.put, List.setIfInBounds_toArray, List.set]))
  (refine held_call 6 rfl (by kernel_rfl) (fun K hK => ?_); go_simp)
  go_at_call 142; refine (tab_Len bb NS _ HTb.out.tb).mono ?_; rintro e w2 ⟨rfl, rfl⟩
  (refine hK.out _ _ (HT.a.1) (fun hHeld => ?_); clear hK K; (try simp only [Act.put, List.setIfInBounds_toArray, List.set]))
  (refine held_call 9 rfl (by kernel_rfl) (fun K hK => ?_); go_simp)
  go_at_call 96; refine (MN.out _ HT.low).mono ?_; rintro e w3 ⟨v3, rfl, hs3, hb3⟩; have HT3 := HT.later hb3; have HTb3 := Lib.hid (HTb.out.below hb3); have HS3 := Lib.hid hs3; clear hs3 hb3
  (refine hK.out _ _ (HT3.a.1) (fun hHeld => ?_); clear hK K; (try simp only [Act.put, List.setIfInBounds_toArray, List.set]))
  (refine held_call 10 rfl (by kernel_rfl) (fun K hK => ?_); go_simp)
  go_at_call 144; refine (table_Rules v3 ms _ HTb3.out HS3.out.a hms.out (by omega)).mono ?_; rintro e w4 ⟨v4, rfl, ho4, hb4⟩; have HT4 := HT3.later hb4; have HTb4 := Lib.hid (HTb3.out.below hb4); have HS4 := Lib.hid (Sl.of_own ho4); clear ho4 hb4
  (refine hK.out _ _ (HT4.a.1) (fun hHeld => ?_); clear hK K; (try simp only [Act.put, List.setIfInBounds_toArray, List.set]))
  (refine held_call 11 rfl (by kernel_rfl) (fun K hK => ?_); go_simp)
  go_at_call 141; refine (sem_Eval PX.length NS.length v4 (rulesN PX NS ms) _ (by omega) (by omega) HS4.out.a (by omega) (HTB.out.below HT4.low)).mono ?_; rintro e w5 ⟨M, F5, W05, g05, fs, st, rfl, hm, hlst, hst, hb5⟩; have HT5 := HT4.later hb5; have HTb5 := Lib.hid (HTb4.out.below hb5); have HM5 := Lib.hid hm; have HL5 := Lib.hid hlst; have HS5 := Lib.hid hst; clear hm hlst hst hb5
  (refine hK.out _ _ (HT5.a.1) (fun hHeld => ?_); clear hK K; (try simp only [Act.put, List.setIfInBounds_toArray, List.set]))
  (refine hyes 12 ?_); (refine hyes 13 ?_); (try simp only [Act.put, List.setIfInBounds_toArray, List.set])
  refine wpAnyH_done (by kernel_rfl) ?_ _
  have HT := Lib.hid HT5
  clear HT5
  go_wp2
  go_ret2
  exact ⟨t, M, fs, st, rfl, ⟨⟨ba, bb, HTb5.out⟩, ⟨F5, W05, g05, HM5.out⟩, HL5.out, HS5.out⟩, HT.out.low⟩
end
end Go.Proofs.YtcmdhfccdkjenaaGreatDoor
namespace Go.Proofs.YtcmdhfccdkjenaaGreatDoor
open Go.RowKit Go.Shelf

theorem least_ex (l : List St) : ∃ ps : List Pr, LeastS l (fun r x => (r, x) ∈ ps) := by
  obtain ⟨cand, hcand⟩ : ∃ c : List Pr, c = l.flatMap (fun s => l.map (fun t => (s.h, t.who))) := ⟨_, rfl⟩
  have cm : ∀ r x, (r, x) ∈ cand ↔ (∃ s ∈ l, s.h = r) ∧ ∃ t ∈ l, t.who = x := by
    intro r x
    rw [hcand, List.mem_flatMap]
    constructor
    · rintro ⟨s, hs, h⟩
      obtain ⟨t, ht, e⟩ := List.mem_map.1 h
      simp only [Prod.mk.injEq] at e
      exact ⟨⟨s, hs, e.1⟩, ⟨t, ht, e.2⟩⟩
    · rintro ⟨⟨s, hs, rfl⟩, ⟨t, ht, rfl⟩⟩
      exact ⟨s, hs, List.mem_map.2 ⟨t, ht, rfl⟩⟩
  have hC : CloS l (fun r x => (r, x) ∈ cand) :=
    ⟨fun s hs _ => (cm _ _).2 ⟨⟨s, hs, rfl⟩, ⟨s, hs, rfl⟩⟩, fun s hs _ x h => (cm _ _).2 ⟨⟨s, hs, rfl⟩, ((cm _ _).1 h).2⟩, fun s hs _ x y _ h => (cm _ _).2 ⟨⟨s, hs, rfl⟩, ((cm _ _).1 h).2⟩, fun s hs _ x h _ => (cm _ _).2 ⟨⟨s, hs, rfl⟩, ((cm _ _).1 h).2⟩⟩
  have hP : ∀ r x, (r, x) ∈ cand.filter (fun p => @decide (∀ E, CloS l E → E p.1 p.2) (Classical.propDecidable _)) ↔ ∀ E, CloS l E → E r x := by
    intro r x
    rw [List.mem_filter]
    constructor
    · rintro ⟨_, h⟩
      exact @of_decide_eq_true _ (Classical.propDecidable _) h
    · intro h
      exact ⟨h _ hC, @decide_eq_true _ (Classical.propDecidable _) h⟩
  refine ⟨_, ⟨fun s hs hk => ?_, fun s hs hk x h => ?_, fun s hs hk x y h1 h2 => ?_, fun s hs hk x h1 h2 => ?_⟩, fun E hE r x h => (hP r x).1 h E hE⟩
  · exact (hP _ _).2 (fun E hE => hE.mem s hs hk)
  · exact (hP _ _).2 (fun E hE => hE.incl s hs hk x ((hP _ _).1 h E hE))
  · exact (hP _ _).2 (fun E hE => hE.link s hs hk x y ((hP _ _).1 h1 E hE) ((hP _ _).1 h2 E hE))
  · exact (hP _ _).2 (fun E hE => hE.both s hs hk x ((hP _ _).1 h1 E hE) ((hP _ _).1 h2 E hE))
end Go.Proofs.YtcmdhfccdkjenaaGreatDoor
namespace Go.Proofs.YtcmdhfccdkjenaaGreatDoor
open Go.RowKit Go.Shelf

end Go.Proofs.YtcmdhfccdkjenaaGreatDoor
namespace Go.Proofs.YtcmdhfccdkjenaaGreatDoor
open Go.RowKit Go.Shelf

end Go.Proofs.YtcmdhfccdkjenaaGreatDoor
namespace Go.Proofs.YtcmdhfccdkjenaaGreatDoor
open Go.RowKit Go.Shelf

end Go.Proofs.YtcmdhfccdkjenaaGreatDoor
namespace Go.Proofs.YtcmdhfccdkjenaaGreatDoor
open Go.RowKit Go.Shelf

end Go.Proofs.YtcmdhfccdkjenaaGreatDoor
namespace Go.Proofs.YtcmdhfccdkjenaaGreatDoor
open Go.RowKit Go.Shelf

set_option maxRecDepth 100000 in
set_option maxHeartbeats 1000000 in
theorem ref1_SameT (va vb : Value) (l : List ByteArray) (w : World) (ha : SlA w 1 va l.length (strs l)) (hb : SlA w 1 vb l.length (strs l)) :
    Calls Tryz.prog 79 #[va, vb] w fun e w' => e = .returned (.bool true) ∧ ∃ n, w' = w.drewN n := by
  have hmax := ha.max
  have hne : ((l.length : Int) != (l.length : Int)) = false := by simp
  by_cases h0 : 0 < l.length
  · obtain ⟨b1, o1, c1, rfl, hc1, hm1, _, hx1⟩ := ha.pos h0
    obtain ⟨b2, o2, c2, rfl, hc2, hm2, _, hx2⟩ := hb.pos h0
    have HX1 := Lib.hid hx1
    have HX2 := Lib.hid hx2
    clear ha hb hx1 hx2
    go_enter Tryz.func79, Tryz.ntmps79
    go_wp2
    go_loopw [13] (fun i wr => ∃ k n : Nat, k ≤ l.length ∧ i = .int .i64 k ∧ wr = w.drewN n) (fun i _ => l.length - (intOf i).toNat)
    case atStart => exact ⟨0, 0, by omega, rfl, rfl⟩
    case round =>
      obtain ⟨k, n, hk, rfl, rfl⟩ := hrel
      by_cases hlt : k < l.length
      · have p0 := HX1.out k _ (strs_get hlt)
        have q0 := HX2.out k _ (strs_get hlt)
        go_wp2_with fail
        go_quiet (fail)
        go_wp2
        exact ⟨⟨k + 1, n + nq, by omega, by go_num, rfl⟩, by simp [intOf]; omega⟩
      · go_wp2
        go_ret
        exact ⟨rfl, n, rfl⟩
  · obtain ⟨a1, c1, rfl⟩ := ha.form
    obtain ⟨a2, c2, rfl⟩ := hb.form
    obtain rfl : l = [] := List.eq_nil_of_length_eq_zero (by omega)
    clear ha hb h0 hmax
    go_enter Tryz.func79, Tryz.ntmps79
    go_wp2
    go_loopw [13] (fun i wr => i = .int .i64 0 ∧ wr = w) (fun _ _ => 0)
    case atStart => exact ⟨rfl, rfl⟩
    case round =>
      obtain ⟨rfl, rfl⟩ := hrel
      go_wp2
      go_ret
      exact ⟨rfl, 0, rfl⟩
theorem ref1_SameB (va vb : Value) (l : List ByteArray) (w : World) (ha : SlA w 1 va l.length (strs l)) (hb : SlA w 1 vb l.length (strs l)) :
    Calls Tryz.prog 79 #[va, vb] w fun e w' => e = .returned (.bool true) ∧ Below w.heap.size w w' :=
  (ref1_SameT va vb l w ha hb).mono fun e w' ⟨he, n, hn⟩ => ⟨he, by rw [hn]; exact below_of_drewN n⟩
end Go.Proofs.YtcmdhfccdkjenaaGreatDoor
namespace Go.Proofs.YtcmdhfccdkjenaaGreatDoor
open Go.RowKit Go.Shelf

section
variable {w : World} {v0 v1 v2 v3 : Value} {l : List St} {g h : List Rl} {qs : List Qv} {F : Qv → List ByteArray} {PS NS : List ByteArray}
theorem PolX.max_ok (P : PolX w v0 v1 v2 v3 l g h qs F PS NS) (h6 : PS.length ≤ 16) : ∀ s ∈ maxS l g PS NS, (ruleN (putX PS) NS s).2 = true :=
  fun s hs => ruleN_in (maxS_right P.rl P.rP P.rN h6 s hs) (maxS_in P.inAB s hs)
end
theorem least_mem {l : List St} {D : Rl → ByteArray → Prop} (hk : ∀ s ∈ l, s.k = 1) (h : LeastS l D) (r : Rl) (x : ByteArray) : D r x ↔ ∃ s ∈ l, s.h = r ∧ s.who = x := by
  constructor
  · intro hd
    refine h.min (fun r x => ∃ s ∈ l, s.h = r ∧ s.who = x) ⟨fun s hs _ => ⟨s, hs, rfl, rfl⟩, fun s hs h2 => ?_, fun s hs h2 => ?_, fun s hs h2 => ?_⟩ r x hd
    · rw [hk s hs] at h2; cases h2
    · rw [hk s hs] at h2; cases h2
    · rw [hk s hs] at h2; cases h2
  · rintro ⟨s, hs, rfl, rfl⟩
    exact h.clo.mem s hs (hk s hs)
def r12 : Rl := ⟨⟨#[65]⟩, ⟨#[114]⟩⟩
def s12 : St := ⟨1, r12, ⟨#[66]⟩, noR, noR, emp⟩
def P12 : List ByteArray := [⟨#[65]⟩, ⟨#[66]⟩]
def N12 : List ByteArray := [⟨#[114]⟩]
def X12 : ByteArray := ⟨#[88, 49]⟩
theorem fresh12 : freshB P12 = X12 := by
  have e : xdec 1 = X12 := by unfold xdec; rw [decL_small (by omega)]; rfl
  rw [← e]
  refine fresh_eq ⟨1, Nat.le_refl _, fun j a b => by omega, ?_, rfl⟩
  rw [e]
  intro hm
  unfold P12 X12 at hm
  simp only [List.mem_cons, List.not_mem_nil, or_false, ByteArray.mk.injEq] at hm
  revert hm
  decide
theorem ex12_right : rightS s12 = true := by kernel_rfl
theorem ex12_kind {g : List Rl} : ∀ s ∈ maxS [s12] g P12 N12, s.k = 1 := by
  intro s hs
  rcases maxS_mem.1 hs with h | ⟨r, x, rfl, _⟩
  · rw [List.mem_singleton.1 h]; rfl
  · rfl
theorem ex12_p {ps : List Pr} (h : LeastS (maxS [s12] [r12] P12 N12) (fun r x => (r, x) ∈ ps)) : membersP ps r12 = [⟨#[66]⟩] := by
  refine asc_uniqueB _ _ (membersP_asc _ _) (List.pairwise_singleton ..) (fun y => ?_)
  rw [membersP_mem, least_mem ex12_kind h]
  constructor
  · rintro ⟨s, hs, e1, e2⟩
    rcases maxS_mem.1 hs with h1 | ⟨r, x, rfl, ⟨_, h2⟩, _⟩
    · rw [List.mem_singleton.1 h1] at e2
      rw [← e2]; exact List.mem_singleton.2 rfl
    · exact absurd (List.mem_singleton.2 e1) h2
  · intro hy
    rw [List.mem_singleton.1 hy]
    exact ⟨s12, maxS_mem.2 (.inl (List.mem_singleton.2 rfl)), rfl, rfl⟩
def F12 : Qv → List ByteArray := fun _ => []
section
variable {w : World} {b1 : Nat} {v1 : Value} {g : List Rl}
end
theorem alloc_keep {w : World} {g : Nat} {o x : Obj} (h : w.heap[g]? = some o) : (w.alloc x).heap[g]? = some o := (Below.heap_alloc _ _ _ (Array.getElem?_eq_some_iff.1 h).1).trans h
theorem heap_new4 (w : World) (o1 o2 o3 o4 : Obj) : ((((w.alloc o1).alloc o2).alloc o3).alloc o4).heap[w.heap.size + 1 + 1 + 1]? = some o4 := by
  have := heap_alloc_new (((w.alloc o1).alloc o2).alloc o3) o4
  simpa using this
theorem heap_new5 (w : World) (o1 o2 o3 o4 o5 : Obj) : (((((w.alloc o1).alloc o2).alloc o3).alloc o4).alloc o5).heap[w.heap.size + 1 + 1 + 1 + 1]? = some o5 := by
  have := heap_alloc_new ((((w.alloc o1).alloc o2).alloc o3).alloc o4) o5
  simpa using this
theorem five_at (w : World) (o0 o1 o2 o3 o4 : Obj) : (((((w.alloc o0).alloc o1).alloc o2).alloc o3).alloc o4).heap[w.heap.size]? = some o0 ∧ (((((w.alloc o0).alloc o1).alloc o2).alloc o3).alloc o4).heap[w.heap.size + 1]? = some o1 ∧ (((((w.alloc o0).alloc o1).alloc o2).alloc o3).alloc o4).heap[w.heap.size + 1 + 1]? = some o2 ∧
    (((((w.alloc o0).alloc o1).alloc o2).alloc o3).alloc o4).heap[w.heap.size + 1 + 1 + 1]? = some o3 ∧ (((((w.alloc o0).alloc o1).alloc o2).alloc o3).alloc o4).heap[w.heap.size + 1 + 1 + 1 + 1]? = some o4 :=
  ⟨alloc_keep (alloc_keep (alloc_keep (alloc_keep (heap_new1 w o0)))), alloc_keep (alloc_keep (alloc_keep (heap_new2 w o0 o1))), alloc_keep (alloc_keep (heap_new3 w o0 o1 o2)), alloc_keep (heap_new4 w o0 o1 o2 o3), heap_new5 w o0 o1 o2 o3 o4⟩
end Go.Proofs.YtcmdhfccdkjenaaGreatDoor
namespace Go.Proofs.YtcmdhfccdkjenaaGreatDoor
open Go.RowKit Go.Shelf

end Go.Proofs.YtcmdhfccdkjenaaGreatDoor
namespace Go.Proofs.YtcmdhfccdkjenaaGreatDoor
open Go.RowKit Go.Shelf

end Go.Proofs.YtcmdhfccdkjenaaGreatDoor
namespace Go.Proofs.YtcmdhfccdkjenaaGreatDoor
open Go.RowKit Go.Shelf

end Go.Proofs.YtcmdhfccdkjenaaGreatDoor
namespace Go.Proofs.YtcmdhfccdkjenaaGreatDoor
open Go.RowKit Go.Shelf

section
variable {w : World} {v0 v1 v2 v3 : Value} {l : List St} {g h : List Rl} {qs : List Qv} {F : Qv → List ByteArray} {PS NS : List ByteArray}
end
end Go.Proofs.YtcmdhfccdkjenaaGreatDoor
namespace Go.Proofs.YtcmdhfccdkjenaaGreatDoor
open Go.RowKit Go.Shelf

section
variable {w : World} {b1 b2 : Nat}
end
end Go.Proofs.YtcmdhfccdkjenaaGreatDoor
namespace Go.Proofs.YtcmdhfccdkjenaaGreatDoor
open Go.RowKit Go.Shelf

structure GoodP (l : List St) (g h : List Rl) (qs : List Qv) (F : Qv → List ByteArray) : Prop where
  right : ∀ s ∈ l, rightS s = true
  ps : (newB (allPrins l g h qs F)).length ≤ 16
  ns : (newB (allNames l g h qs)).length ≤ 12
theorem RightP.good {l : List St} {g h : List Rl} {qs : List Qv} {F : Qv → List ByteArray} (hr : RightP l g h qs F) : GoodP l g h qs F := by
  obtain ⟨h1, _, _, _, _, _, h2⟩ := hr
  unfold fitsP at h2
  simp only [Bool.and_eq_true, decide_eq_true_iff] at h2
  exact ⟨h1, h2.2.1, h2.2.2⟩
end Go.Proofs.YtcmdhfccdkjenaaGreatDoor
namespace Go.Proofs.YtcmdhfccdkjenaaGreatDoor
open Go.RowKit Go.Shelf

theorem RightP.polx {w : World} {v0 v1 v2 v3 : Value} {l : List St} {g h : List Rl} {qs : List Qv} {F : Qv → List ByteArray} (hr : RightP l g h qs F) (hp : PolAt w v0 v1 v2 v3 l g h qs) (hT : TB w) (hl : l.length ≤ 30) (hg : g.length ≤ 30) (hh : h.length ≤ 30) (hq : qs.length ≤ 30) (hF : WhoF w qs F) (hs : allLe l 40) :
    PolX w v0 v1 v2 v3 l g h qs F (newB (allPrins l g h qs F)) (newB (allNames l g h qs)) :=
  ⟨hp, by omega, by omega, by omega, by omega, hF, fun x hx => (hs x hx).mono (by decide), hT, rfl, rfl, by have := hr.good.ps; omega, by have := hr.good.ns; omega, hr.1, hr.names.1, hr.names.2⟩
end Go.Proofs.YtcmdhfccdkjenaaGreatDoor
namespace Go.Proofs.YtcmdhfccdkjenaaGreatDoor
open Go.RowKit Go.Shelf

section
variable {w W : World} {v0 v1 v2 v3 vq : Value} {l : List St} {g h : List Rl} {qs : List Qv} {q : Qv} {us PS NS : List ByteArray}
def SameM (A B : List ByteArray) (S : List St) : Prop := A.length ≤ 64 ∧ B.length ≤ 1000 ∧ AscB A ∧ AscB B ∧ ∀ s ∈ S, (ruleN A B s).2 = true
theorem PolX.highM {F : Qv → List ByteArray} (P : PolX W v0 v1 v2 v3 l g h qs F PS NS) (h6 : PS.length ≤ 16) (h4 : NS.length ≤ 12) : SameM (putX PS) NS (maxS l g PS NS) := by
  have hpx := putX_len PS
  exact ⟨by omega, by omega, putX_asc P.ascP, P.ascN, P.max_ok h6⟩
end
end Go.Proofs.YtcmdhfccdkjenaaGreatDoor
namespace Go.Proofs.YtcmdhfccdkjenaaGreatDoor
open Go.RowKit Go.Shelf

end Go.Proofs.YtcmdhfccdkjenaaGreatDoor
namespace Go.Proofs.YtcmdhfccdkjenaaGreatDoor
open Go.RowKit Go.Shelf

end Go.Proofs.YtcmdhfccdkjenaaGreatDoor
namespace Go.Proofs.YtcmdhfccdkjenaaGreatDoor
open Go.RowKit Go.Shelf

section
variable {w W : World} {v0 v1 v2 v3 vq : Value} {l : List St} {g h : List Rl} {qs : List Qv} {q : Qv} {us PS NS : List ByteArray}
end
end Go.Proofs.YtcmdhfccdkjenaaGreatDoor
namespace Go.Proofs.YtcmdhfccdkjenaaGreatDoor
open Go.RowKit Go.Shelf

theorem take_moreT {α : Type} {l m : List α} {k : Nat} (h : l.take k = m.take k) (hl : k < l.length) (hm : k < m.length) (e : l[k] = m[k]) : l.take (k + 1) = m.take (k + 1) := by
  rw [List.take_succ_eq_append_getElem hl, List.take_succ_eq_append_getElem hm, h, e]
theorem same_endT {l m : List ByteArray} {k : Nat} (h : l.take k = m.take k) (hl : ¬ k < l.length) (hm : ¬ k < m.length) : decide (l = m) = true := by
  rw [List.take_of_length_le (by omega), List.take_of_length_le (by omega)] at h
  exact decide_eq_true h
theorem same_noT {l m : List ByteArray} {k : Nat} (hl : k < l.length) (hm : k < m.length) (e : ¬ l[k] = m[k]) : decide (l = m) = false := decide_eq_false (fun h => e (by subst h; rfl))
theorem same_lenT {l m : List ByteArray} (h : ¬ l.length = m.length) : decide (l = m) = false := decide_eq_false (fun e => h (by rw [e]))
set_option maxRecDepth 100000 in
set_option maxHeartbeats 2000000 in
theorem str_Equal (va vb : Value) (l m : List ByteArray) (w : World) (ha : SlA w 1 va l.length (strs l)) (hb : SlA w 1 vb m.length (strs m)) :
    Calls Tryz.prog 171 #[va, vb] w fun e w' => e = .returned (.bool (decide (l = m))) ∧ ∃ n, w' = w.drewN n := by
  have hmax := ha.max
  have hmax2 := hb.max
  by_cases hl : l.length = m.length
  case neg =>
    have R := Lib.hid (same_lenT hl)
    have d : ((l.length : Int) != (m.length : Int)) = true := by rw [bne_iff_ne]; omega
    obtain ⟨a1, c1, rfl⟩ := ha.form
    obtain ⟨a2, c2, rfl⟩ := hb.form
    clear ha hb hl
    go_enter Tryz.func171, Tryz.ntmps171
    go_wp2
    go_ret
    exact ⟨ret_b R.out.symm, 0, rfl⟩
  have hne : ((l.length : Int) != (m.length : Int)) = false := by rw [hl]; simp
  by_cases h0 : 0 < l.length
  · obtain ⟨b1, o1, c1, rfl, hc1, hm1, _, hx1⟩ := ha.pos h0
    obtain ⟨b2, o2, c2, rfl, hc2, hm2, _, hx2⟩ := hb.pos (by omega)
    have HX1 := Lib.hid hx1
    have HX2 := Lib.hid hx2
    have HL := Lib.hid hl
    clear ha hb hx1 hx2 hl
    go_enter Tryz.func171, Tryz.ntmps171
    go_wp2
    go_loopw [13] (fun i wr => ∃ k n : Nat, k ≤ l.length ∧ i = .int .i64 k ∧ wr = w.drewN n ∧ Hid (l.take k = m.take k)) (fun i _ => l.length - (intOf i).toNat)
    case atStart => exact ⟨0, 0, by omega, rfl, rfl, Lib.hid (by simp)⟩
    case round =>
      obtain ⟨k, n, hk, rfl, rfl, HT⟩ := hrel
      by_cases hlt : k < l.length
      · have hlt2 : k < m.length := by have := HL.out; omega
        have p0 := HX1.out k _ (strs_get hlt)
        have q0 := HX2.out k _ (strs_get hlt2)
        by_cases he : l[k] = m[k]
        · have HN := Lib.hid (take_moreT HT.out hlt hlt2 he)
          have d1 : (!(l[k].toList == m[k].toList)) = false := by rw [beq_str, decide_eq_true he]; rfl
          clear he
          generalize l[k] = x at *
          generalize m[k] = y at *
          go_wp2_with fail
          go_big_quiet (fail)
          go_wp2
          exact ⟨⟨k + 1, n + nq, by omega, by go_num, rfl, HN⟩, by simp [intOf]; omega⟩
        · have R := Lib.hid (same_noT hlt hlt2 he)
          have d1 : (!(l[k].toList == m[k].toList)) = true := by rw [beq_str, decide_eq_false he]; rfl
          clear he
          generalize l[k] = x at *
          generalize m[k] = y at *
          go_wp2_with fail
          go_big_quiet (fail)
          go_wp2
          go_ret
          exact ⟨ret_b R.out.symm, n + nq, by simp [World.drewN, Nat.add_assoc]⟩
      · have R := Lib.hid (same_endT HT.out hlt (by have := HL.out; omega))
        go_wp2
        go_ret
        exact ⟨ret_b R.out.symm, n, rfl⟩
  · have R := Lib.hid (same_endT (l := l) (m := m) (k := 0) (by simp) h0 (by omega))
    obtain ⟨a1, c1, rfl⟩ := ha.form
    obtain ⟨a2, c2, rfl⟩ := hb.form
    have d0 : l.length = 0 := by omega
    have d02 : m.length = 0 := by omega
    clear ha hb h0 hmax hl hmax2
    go_enter Tryz.func171, Tryz.ntmps171
    go_wp2
    go_loopw [13] (fun i wr => i = .int .i64 0 ∧ wr = w) (fun _ _ => 0)
    case atStart => exact ⟨rfl, rfl⟩
    case round =>
      obtain ⟨rfl, rfl⟩ := hrel
      go_wp2
      go_ret
      exact ⟨ret_b R.out.symm, 0, rfl⟩
end Go.Proofs.YtcmdhfccdkjenaaGreatDoor
namespace Go.Proofs.YtcmdhfccdkjenaaGreatDoor
open Go.RowKit Go.Shelf

structure MR where
  r : Rl
  lo : List ByteArray
  hi : List ByteArray
  op : Bool
  k : Int
structure MV where
  s : MR
  lv : Value
  hv : Value
def MV.cells (x : MV) : List Value := [.string x.s.r.o, .string x.s.r.n, x.lv, x.hv, .bool x.s.op, .int .i64 x.s.k]
theorem MV.cells_len (x : MV) : x.cells.length = 6 := rfl
abbrev mv (x : MV) : Value := .agg #[.string x.s.r.o, .string x.s.r.n, x.lv, x.hv, .bool x.s.op, .int .i64 x.s.k]
def MV.ok (w : World) (x : MV) : Prop := SlA w 1 x.lv x.s.lo.length (strs x.s.lo) ∧ SlA w 1 x.hv x.s.hi.length (strs x.s.hi)
theorem MV.ok.below {w w' : World} {x : MV} (h : x.ok w) (hb : Below w.heap.size w w') : x.ok w' := ⟨h.1.below hb, h.2.below hb⟩
def kindM (op : Bool) (lo hi : List ByteArray) : Int := if op = true then 3 else if hi.length = 0 then 4 else if lo = hi then 1 else 2
def rowM (ps es : List Pr) (x : ByteArray) (r : Rl) : MR :=
  ⟨r, membersP ps r, (membersP es r).filter (fun y => !decide (y = x)), (membersP es r).any (fun y => decide (y = x)), kindM ((membersP es r).any (fun y => decide (y = x))) (membersP ps r) ((membersP es r).filter (fun y => !decide (y = x)))⟩
theorem mv_cell {w : World} {b off : Nat} {l : List MV} (h : ∀ j u, (l.flatMap MV.cells)[j]? = some u → w.cell? ⟨b, off + j, none⟩ = some u) (k : Nat) (hk : k < l.length) :
    w.cell? ⟨b, off + k * 6, none⟩ = some (.string l[k].s.r.o) ∧ w.cell? ⟨b, off + k * 6 + 1, none⟩ = some (.string l[k].s.r.n) ∧ w.cell? ⟨b, off + k * 6 + 2, none⟩ = some l[k].lv ∧ w.cell? ⟨b, off + k * 6 + 3, none⟩ = some l[k].hv ∧ w.cell? ⟨b, off + k * 6 + 4, none⟩ = some (.bool l[k].s.op) ∧ w.cell? ⟨b, off + k * 6 + 5, none⟩ = some (.int .i64 l[k].s.k) := by
  have hg : ∀ f (hf : f < 6), w.cell? ⟨b, off + k * 6 + f, none⟩ = l[k].cells[f]? := fun f hf => by
    have e := flat_get MV.cells 6 MV.cells_len l k f hf l[k] (List.getElem?_eq_getElem hk)
    have hs : (l[k].cells)[f]? = some ((l[k].cells)[f]'(by rw [MV.cells_len]; exact hf)) := List.getElem?_eq_getElem _
    rw [hs] at e ⊢
    rw [Nat.add_assoc]
    exact h _ _ e
  exact ⟨hg 0 (by decide), hg 1 (by decide), hg 2 (by decide), hg 3 (by decide), hg 4 (by decide), hg 5 (by decide)⟩
theorem mr_info : (Tryz.prog.info? 77).map (fun i => (i.zero, i.size, i.bytes)) = some (some (.agg #[.string emp, .string emp, .slice none 0 0, .slice none 0 0, .bool false, .int .i64 0]), 6, 96) := by kernel_rfl
theorem mv_one {x : MV} (h1 : x.lv.oneCell' = true) (h2 : x.hv.oneCell' = true) : ∀ u ∈ x.cells, u.oneCell' = true := by
  intro u hu
  simp only [MV.cells, List.mem_cons, List.not_mem_nil, or_false] at hu
  rcases hu with rfl | rfl | rfl | rfl | rfl | rfl
  · rfl
  · rfl
  · exact h1
  · exact h2
  · rfl
  · rfl
theorem take_filter {A : List ByteArray} {p : ByteArray → Bool} {k : Nat} (hk : k < A.length) : (A.take (k + 1)).filter p = (A.take k).filter p ++ (if p A[k] = true then [A[k]] else []) := by
  rw [List.take_succ_eq_append_getElem hk, List.filter_append, List.filter_cons, List.filter_nil]
theorem take_any {A : List ByteArray} {p : ByteArray → Bool} {k : Nat} (hk : k < A.length) : (A.take (k + 1)).any p = ((A.take k).any p || p A[k]) := by
  rw [List.take_succ_eq_append_getElem hk, List.any_append, List.any_cons, List.any_nil, Bool.or_false]
section
variable {w : World} {v0 v1 v2 v3 : Value} {l : List St} {g h : List Rl} {qs : List Qv} {F : Qv → List ByteArray} {PS NS : List ByteArray}
theorem PolX.lowM (P : PolX w v0 v1 v2 v3 l g h qs F PS NS) (h6 : PS.length ≤ 16) (h4 : NS.length ≤ 12) : SameM PS NS (minS l h) :=
  ⟨by omega, by omega, P.ascP, P.ascN, fun s hs => ruleN_in (P.rl s (List.mem_filter.1 hs).1) (P.inAB s (List.mem_filter.1 hs).1)⟩
theorem PolX.lowEval (P : PolX w v0 v1 v2 v3 l g h qs F PS NS) (h6 : PS.length ≤ 16) (h4 : NS.length ≤ 12) :
    Calls Tryz.prog 86 #[pv v0 v1 v2 v3] w fun e w' => ∃ t M fs st, e = .returned (.tuple #[.pointer (some ⟨t, 0, none⟩), .pointer (some ⟨M, 0, none⟩)]) ∧ TmAt w' t M PS NS (minS l h) fs st ∧ Below w.heap.size w w' := by
  have := low_Eval v0 v1 v2 v3 l g h qs w P.at_ P.hl P.hg P.hh P.hq F P.hF P.hs P.hT (by rw [P.eP]; omega) (by rw [P.eN]; omega)
  rw [P.eP, P.eN] at this
  exact this
end
end Go.Proofs.YtcmdhfccdkjenaaGreatDoor
namespace Go.Proofs.YtcmdhfccdkjenaaGreatDoor
open Go.RowKit Go.Shelf

end Go.Proofs.YtcmdhfccdkjenaaGreatDoor
namespace Go.Proofs.YtcmdhfccdkjenaaGreatDoor
open Go.RowKit Go.Shelf

section
variable {w : World} {v0 v1 v2 v3 : Value} {l : List St} {g h : List Rl} {qs : List Qv} {F : Qv → List ByteArray} {q : Qv} {us PS NS : List ByteArray}
end
section
variable {w : World} {v0 v1 v2 v3 : Value} {l : List St} {g h : List Rl} {qs : List Qv} {q : Qv} {us PS NS : List ByteArray}
end
end Go.Proofs.YtcmdhfccdkjenaaGreatDoor
