/- crupperref12.Fresh, Prins, Roles, Maximal (printed by gen_ref12.py). The document's example of layer 11. The statement LowTells: the walk of the law. crupperlaw12.small; how much a policy's states can tell. simple.Decide: the walk (printed by gen_simdecide.py). simple.Decide, by the least state (printed by gen_simdecide.py). -/
import Derived.Test.YtcmdhfccdkjenaaGreatDoorPart17
import Derived.Test.YtcmdhfccdkjenaaGreatDoorPart18
import Derived.Test.YtcmdhfccdkjenaaGreatDoorPart16
import Derived.Test.YtcmdhfccdkjenaaGreatDoorPart6
import Derived.Test.YtcmdhfccdkjenaaGreatDoorPart9
import Derived.Test.YtcmdhfccdkjenaaGreatDoorPart8
namespace Go.Proofs.YtcmdhfccdkjenaaGreatDoor
open Go.RowKit Go.Shelf

theorem filter_mapSnoc {α β : Type} {B : List α} {f : α → β} {p : β → Bool} {k : Nat} (hk : k < B.length) : ((B.take (k + 1)).map f).filter p = ((B.take k).map f).filter p ++ (if p (f B[k]) = true then [f B[k]] else []) := by
 rw [map_snocT hk, List.filter_append, List.filter_cons, List.filter_nil]
section
variable {w : World} {v0 v1 v2 v3 : Value} {l : List St} {g h : List Rl} {qs : List Qv} {F : Qv → List ByteArray} {PS NS : List ByteArray}
theorem ref5_PrinsX (P : PolX w v0 v1 v2 v3 l g h qs F PS NS) : Calls Tryz.prog 45 #[pv v0 v1 v2 v3] w fun e w' => ∃ v, e = .returned v ∧ w'.ownsRow w.heap.size 9 1 v PS.length (strs PS) ∧ Below w.heap.size w w' := by
 refine (ref5_PrinsO v0 v1 v2 v3 l g h qs w P.at_ P.hl P.hg P.hh P.hq F P.hF).mono ?_
 rintro e w' ⟨v, rfl, ⟨⟨h1, _⟩, _⟩, hb⟩
 rw [P.eP] at h1
 exact ⟨v, rfl, h1, hb⟩
theorem ref5_NamesX (P : PolX w v0 v1 v2 v3 l g h qs F PS NS) : Calls Tryz.prog 46 #[pv v0 v1 v2 v3] w fun e w' => ∃ v, e = .returned v ∧ w'.ownsRow w.heap.size 9 1 v NS.length (strs NS) ∧ Below w.heap.size w w' := by
 refine (ref5_NamesO v0 v1 v2 v3 l g h qs w P.at_ P.hl P.hg P.hh P.hq).mono ?_
 rintro e w' ⟨v, rfl, ⟨⟨h1, _⟩, _⟩, hb⟩
 rw [P.eN] at h1
 exact ⟨v, rfl, h1, hb⟩
set_option maxRecDepth 100000 in
set_option maxHeartbeats 2000000 in
theorem ref12_Fresh (P : PolX w v0 v1 v2 v3 l g h qs F PS NS) : Calls Tryz.prog 117 #[pv v0 v1 v2 v3] w fun e w' => e = .returned (.string (freshB PS)) ∧ Below w.heap.size w w' := by
 have PP := Lib.hid (fun W (hb : Below w.heap.size w W) => ref5_PrinsX (P.below hb))
 have hps := P.hps
 obtain ⟨a0, c0, rfl⟩ := P.at_.rs.form
 obtain ⟨a1, c1, rfl⟩ := P.at_.rg.form
 obtain ⟨a2, c2, rfl⟩ := P.at_.rh.form
 obtain ⟨a3, c3, rfl⟩ := P.at_.rq.form
 have HT := Lib.hid (show OneAt w #[.slice a0 l.length c0, .slice a1 g.length c1, .slice a2 h.length c2, .slice a3 qs.length c3] (w.alloc (.cells #[.slice a0 l.length c0, .slice a1 g.length c1, .slice a2 h.length c2, .slice a3 qs.length c3] 26)) from ⟨Blk.new w _ _, (Below.refl _ _).alloc (Nat.le_refl _) _⟩)
 clear P
 go_enter Tryz.func117, Tryz.ntmps117
 go_wp2_with fail
 refine (PP.out _ HT.out.low).mono ?_
 rintro e w1 ⟨vp, rfl, ho, hb1⟩
 obtain ⟨ao, co, rfl⟩ := own_form ho
 have HT := Lib.hid (HT.out.later hb1)
 have HS := Lib.hid (Sl.of_own ho)
 clear ho hb1 PP
 go_wp2_with fail
 refine (ref1_Fresh1 (.slice ao PS.length co) PS _ HS.out.a (by omega)).mono ?_
 rintro e w3 ⟨g3, c3', rfl, hs, hb3⟩
 have HT := Lib.hid (HT.out.later hb3)
 obtain ⟨b4, o4, c4, he, hc4, hm4, hb4, hx4⟩ := hs.pos (by omega)
 simp only [Value.slice.injEq, Option.some.injEq, Addr.mk.injEq, true_and, and_true] at he
 obtain ⟨⟨rfl, rfl⟩, rfl⟩ := he
 have p0 := hx4 0 _ rfl
 simp only [Nat.add_zero] at p0
 clear hs hb3 hx4
 go_wp2
 go_ret
 exact ⟨rfl, HT.out.low⟩
set_option maxRecDepth 100000 in
set_option maxHeartbeats 4000000 in
theorem ref12_Prins (P : PolX w v0 v1 v2 v3 l g h qs F PS NS) : Calls Tryz.prog 163 #[pv v0 v1 v2 v3] w fun e w' => ∃ v, e = .returned v ∧ w'.ownsRow w.heap.size 9 1 v (putX PS).length (strs (putX PS)) ∧ Below w.heap.size w w' := by
 have PP := Lib.hid (fun W (hb : Below w.heap.size w W) => ref5_PrinsX (P.below hb))
 have FR := Lib.hid (fun W (hb : Below w.heap.size w W) => ref12_Fresh (P.below hb))
 have PE := Lib.hid (show insSB PS (freshB PS) = putX PS from rfl)
 have hps := P.hps
 obtain ⟨a0, c0, rfl⟩ := P.at_.rs.form
 obtain ⟨a1, c1, rfl⟩ := P.at_.rg.form
 obtain ⟨a2, c2, rfl⟩ := P.at_.rh.form
 obtain ⟨a3, c3, rfl⟩ := P.at_.rq.form
 have HT := Lib.hid (show OneAt w #[.slice a0 l.length c0, .slice a1 g.length c1, .slice a2 h.length c2, .slice a3 qs.length c3] (w.alloc (.cells #[.slice a0 l.length c0, .slice a1 g.length c1, .slice a2 h.length c2, .slice a3 qs.length c3] 26)) from ⟨Blk.new w _ _, (Below.refl _ _).alloc (Nat.le_refl _) _⟩)
 clear P
 generalize putX PS = PX at *
 generalize freshB PS = x at *
 go_enter Tryz.func163, Tryz.ntmps163
 go_wp2_with fail
 refine wp_region_held_drew (S := (fun W => ∀ o, W.cell? ⟨w.heap.size, o, none⟩ = (#[.slice a0 l.length c0, .slice a1 g.length c1, .slice a2 h.length c2, .slice a3 qs.length c3] : Array Value)[o]?)) (by kernel_rfl) HT.out.drew.a.1 (fun hHeld => ?_)
 have HT := HT.out.drew
 obtain ⟨wk, hwk⟩ : ∃ W, W = (w.alloc (.cells #[.slice a0 l.length c0, .slice a1 g.length c1, .slice a2 h.length c2, .slice a3 qs.length c3] 26)).drew := ⟨_, rfl⟩
 rw [← hwk] at HT hHeld ⊢
 clear hwk
 (refine hyes 0 ?_); (refine hyes 2 ?_); (try simp only [Act.put, List.setIfInBounds_toArray, List.set])
 (refine held_call 1 rfl (by kernel_rfl) (fun K hK => ?_); go_simp)
 go_at_call 45; refine (PP.out _ HT.low).mono ?_; rintro e w1 ⟨vp, rfl, ho, hb⟩; have hbz := HT.low.size; have HT1 := HT.later hb; have ho := own_mono ho hbz; obtain ⟨ao, co, hv⟩ := own_form ho; subst hv; clear PP hb hbz
 (refine hK.out _ _ (HT1.a.1) (fun hHeld => ?_); clear hK K; (try simp only [Act.put, List.setIfInBounds_toArray, List.set]))
 (refine held_call 3 rfl (by kernel_rfl) (fun K hK => ?_); go_simp)
 go_at_call 117; refine (FR.out _ HT1.low).mono ?_; rintro e w2 ⟨rfl, hb2⟩; have HT2 := HT1.later hb2; have ho2 := Lib.hid (own_below ho hb2); clear FR ho hb2
 (refine hK.out _ _ (HT2.a.1) (fun hHeld => ?_); clear hK K; (try simp only [Act.put, List.setIfInBounds_toArray, List.set]))
 (refine held_call 4 rfl (by kernel_rfl) (fun K hK => ?_); go_simp)
 go_at_call 91; refine (ref1_PutO (.slice ao PS.length co) PS x _ (Sl.of_own ho2.out).a (by omega)).mono ?_; rintro e w3 ⟨v3', rfl, hr, hb3⟩; rw [PE.out] at hr; have HT3 := HT2.later hb3; have HR : Hid (w3.ownsRow w.heap.size 9 1 v3' PX.length (strs PX)) := Lib.hid (by
  rcases hr with ⟨rfl, e1⟩ | hr
  ·rw [e1]; exact own_below ho2.out hb3
  ·exact own_mono hr HT2.low.size); obtain ⟨a3', c3', hv⟩ := own_form HR.out; subst hv; clear hr hb3
 (refine hK.out _ _ (HT3.a.1) (fun hHeld => ?_); clear hK K; (try simp only [Act.put, List.setIfInBounds_toArray, List.set]))
 (refine hyes 5 ?_); (try simp only [Act.put, List.setIfInBounds_toArray, List.set])
 refine wpAnyH_done (by kernel_rfl) ?_ _
 have HT := Lib.hid HT3
 clear HT3
 go_wp2
 go_ret
 exact ⟨_, rfl, HR.out, HT.out.low⟩
set_option maxRecDepth 100000 in
set_option maxHeartbeats 8000000 in
theorem ref12_Roles (P : PolX w v0 v1 v2 v3 l g h qs F PS NS) (h6 : PS.length ≤ 6) (h4 : NS.length ≤ 4) : Calls Tryz.prog 162 #[pv v0 v1 v2 v3] w fun e w' => ∃ v, e = .returned v ∧ w'.ownsRow w.heap.size 28 2 v (rolesX PS NS g).length ((rolesX PS NS g).flatMap Rl.cells) ∧ Below w.heap.size w w' := by
 have PN := Lib.hid (fun W (hb : Below w.heap.size w W) => ref5_NamesX (P.below hb))
 have PR := Lib.hid (fun W (hb : Below w.heap.size w W) => ref12_Prins (P.below hb))
 have hpx := putX_len PS
 have RH := Lib.hid (fun x W (hb : Below w.heap.size w W) => ref5_Has v1 g x W (P.at_.rg.below hb))
 have RES := Lib.hid (show insAllR [] ((allR (putX PS) NS).filter (fun r => !hasR g r)) = rolesX PS NS g from rfl)
 obtain ⟨a0, c0, rfl⟩ := P.at_.rs.form
 obtain ⟨a1, c1, rfl⟩ := P.at_.rg.form
 obtain ⟨a2, c2, rfl⟩ := P.at_.rh.form
 obtain ⟨a3, c3, rfl⟩ := P.at_.rq.form
 have HT := Lib.hid (show OneAt w #[.slice a0 l.length c0, .slice a1 g.length c1, .slice a2 h.length c2, .slice a3 qs.length c3] (w.alloc (.cells #[.slice a0 l.length c0, .slice a1 g.length c1, .slice a2 h.length c2, .slice a3 qs.length c3] 26)) from ⟨Blk.new w _ _, (Below.refl _ _).alloc (Nat.le_refl _) _⟩)
 clear P
 generalize putX PS = PX at *
 generalize rolesX PS NS g = RX at *
 have hp7 : PX.length ≤ 7 := by omega
 go_enter Tryz.func162, Tryz.ntmps162
 go_wp2_with fail
 refine (PR.out _ HT.out.low).mono ?_
 rintro e w1 ⟨vp, rfl, ho, hb1⟩
 obtain ⟨ao, co, rfl⟩ := own_form ho
 have HT := Lib.hid (HT.out.later hb1)
 have HP := Lib.hid ho
 clear ho hb1 PR
 go_wp2_with fail
 go_loopw [3, 12] (fun vo i wr => ∃ (k : Nat) (rs : List Rl), k ≤ PX.length ∧ i = .int .i64 k ∧ Hid (rs = (allR (PX.take k) NS).filter (fun r => !hasR g r)) ∧ Hid (OneAt w #[.slice a0 l.length c0, .slice a1 g.length c1, .slice a2 h.length c2, .slice a3 qs.length c3] wr) ∧ Hid (wr.ownsRow (w.heap.size + 1) 28 2 vo rs.length (rs.flatMap Rl.cells)) ∧ Hid (∃ B, wr.ownsRow B 9 1 (.slice ao PX.length co) PX.length (strs PX))) (fun _ i _ => PX.length - (intOf i).toNat)
 case atStart => exact ⟨0, [], by omega, rfl, Lib.hid rfl, HT, Lib.hid (World.ownsRow_nil _ _ _ _), Lib.hid ⟨_, HP.out⟩⟩
 case round =>
  clear HT HP
  obtain ⟨k, rs, hk, rfl, HE, HT, HO, HP⟩ := hrel
  obtain ⟨BP, hop⟩ := HP.out
  have HP := Lib.hid hop
  obtain ⟨oo, oc, rfl⟩ := own_form HO.out
  obtain ⟨cs, fs, zs⟩ := HT.out.a
  have hrl : rs.length ≤ 7 * 4 := by
   rw [HE.out]
   refine Nat.le_trans (List.length_filter_le _ _) ?_
   rw [allR_len]; exact Nat.mul_le_mul (by have := List.length_take_le k PX; omega) h4
  by_cases hlt : k < PX.length
  ·obtain ⟨b1, o1, rfl, p0, hc1, hm1, hb1⟩ := own_text hop hlt rfl
   have HF := Lib.hid (show (allR (PX.take (k + 1)) NS).filter (fun r => !hasR g r) = (allR (PX.take k) NS).filter (fun r => !hasR g r) ++ (NS.map (fun n => (⟨PX[k], n⟩ : Rl))).filter (fun r => !hasR g r) by rw [allR_snoc hlt, List.filter_append])
   clear hop
   generalize PX[k] = x at *
   go_wp2_with fail
   refine (PN.out _ HT.out.low).mono ?_
   rintro e w2 ⟨vn, rfl, hon, hb2⟩
   obtain ⟨an, cn, rfl⟩ := own_form hon
   have HT2 := Lib.hid (HT.out.later hb2)
   have HO2 := Lib.hid (own_below HO.out hb2)
   have HP2 := Lib.hid (own_below HP.out hb2)
   have HN2 := Lib.hid hon
   clear hon hb2 cs fs zs p0 HT HO HP
   go_wp2_with fail
   go_loopw [3, 19] (fun vo i wr2 => ∃ (j : Nat) (ss : List Rl), j ≤ NS.length ∧ i = .int .i64 j ∧ Hid (ss = rs ++ ((NS.take j).map (fun n => (⟨x, n⟩ : Rl))).filter (fun r => !hasR g r)) ∧ Hid (OneAt w #[.slice a0 l.length c0, .slice a1 g.length c1, .slice a2 h.length c2, .slice a3 qs.length c3] wr2) ∧ Hid (wr2.ownsRow (w.heap.size + 1) 28 2 vo ss.length (ss.flatMap Rl.cells)) ∧ Hid (wr2.ownsRow BP 9 1 (.slice (some ⟨b1, o1, none⟩) PX.length co) PX.length (strs PX)) ∧ Hid (wr2.ownsRow wr.heap.size 9 1 (.slice an NS.length cn) NS.length (strs NS))) (fun _ i _ => NS.length - (intOf i).toNat)
   case atStart => exact ⟨0, rs, by omega, rfl, Lib.hid (by simp), HT2, HO2, HP2, HN2⟩
   case round =>
    clear HT2 HO2 HP2 HN2
    obtain ⟨j, ss, hj, rfl, HE2, HT, HO, HP, HN⟩ := hrel
    obtain ⟨oo, oc, rfl⟩ := own_form HO.out
    obtain ⟨cs, fs, zs⟩ := HT.out.a
    have hsl : ss.length ≤ rs.length + 4 := by
     rw [HE2.out, List.length_append]
     have h1 := List.length_filter_le (fun r => !hasR g r) ((NS.take j).map (fun n => (⟨x, n⟩ : Rl)))
     rw [List.length_map] at h1
     have := List.length_take_le j NS; omega
    by_cases hlt2 : j < NS.length
    ·obtain ⟨b2, o2, rfl, p0, hc2, hm2, hb2⟩ := own_text HN.out hlt2 rfl
     have HF2 := Lib.hid (filter_mapSnoc (f := fun n => (⟨x, n⟩ : Rl)) (p := fun r => !hasR g r) hlt2)
     generalize NS[j] = y at *
     have RHx := Lib.hid (RH.out ⟨x, y⟩)
     generalize hasR g ⟨x, y⟩ = t at *
     have HT1 := Lib.hid (HT.out.alloc (.cells #[.string x, .string y] 28))
     have HO1 := Lib.hid (HO.out.alloc (.cells #[.string x, .string y] 28))
     have HP1 := Lib.hid (HP.out.alloc (.cells #[.string x, .string y] 28))
     have HN1 := Lib.hid (HN.out.alloc (.cells #[.string x, .string y] 28))
     have HX1 := Lib.hid (Blk.new wr #[.string x, .string y] 28)
     go_wp2_with fail
     refine (RHx.out _ HT1.out.low).mono ?_
     rintro e w4 ⟨rfl, hb4⟩
     have HT4 := Lib.hid (HT1.out.later hb4)
     have HO4 := Lib.hid (own_below HO1.out hb4)
     have HP4 := Lib.hid (own_below HP1.out hb4)
     have HN4 := Lib.hid (own_below HN1.out hb4)
     have HX4 := Lib.hid (HX1.out.below hb4)
     clear hb4 HT1 HO1 HP1 HN1 HX1 HT HO HP HN cs fs zs p0 RHx
     obtain ⟨cs, fs, zs⟩ := HT4.out.a
     obtain ⟨cx, fx, zx⟩ := HX4.out
     cases t with
     | true =>
      go_wp2_with fail
      exact ⟨⟨j + 1, ss, by omega, by go_num, Lib.hid (by rw [HF2.out, HE2.out]; simp), HT4, HO4, HP4, HN4⟩, by simp [intOf]; omega⟩
     | false =>
      go_wp2_with (at_builtin; refine halt_ ?_)
      unfold Halt_
      refine app_own Tryz.underlying23 rl_info' rfl (by decide) (by decide) rfl _ _ rfl (w.heap.size + 1) rfl (HO4.out.alloc _) [.string x, .string y] rfl (heap_new1 _ _) rfl (rlc_one ⟨x, y⟩) ?_ ?_ ?_
      ·omega
      ·have := HT4.out.a.2.2; simp; omega
      intro a' cap' w5 hown' hgrow
      obtain ⟨q1, q2⟩ := push_at Rl.cells (x := ⟨x, y⟩) HT4.out HO4.out hown' hgrow
      have HP5 := Lib.hid (own_far (HP4.out.alloc _) (HO4.out.alloc _) hgrow (by decide))
      have HN5 := Lib.hid (own_far (HN4.out.alloc _) (HO4.out.alloc _) hgrow (by decide))
      have HO5 := Lib.hid q1
      have HT5 := Lib.hid q2
      clear hown' hgrow q1 q2 cs fs zs cx fx zx
      go_wp2_with fail
      exact ⟨⟨j + 1, ss ++ [⟨x, y⟩], by omega, by go_num, Lib.hid (by rw [HF2.out, HE2.out]; simp), HT5, HO5, HP5, HN5⟩, by simp [intOf]; omega⟩
    ·have HES := Lib.hid (show ss = (allR (PX.take (k + 1)) NS).filter (fun r => !hasR g r) by rw [HF.out, HE2.out, HE.out, List.take_of_length_le (show NS.length ≤ j by omega)])
     go_wp2_with fail
     exact ⟨⟨k + 1, ss, by omega, by go_num, HES, HT, HO, Lib.hid ⟨_, HP.out⟩⟩, by simp [intOf]; omega⟩
  ·have HES := Lib.hid (show rs = (allR PX NS).filter (fun r => !hasR g r) by rw [HE.out, List.take_of_length_le (show PX.length ≤ k by omega)])
   have HS := Lib.hid (Sl.of_own HO.out)
   go_wp2_with fail
   refine (ref5_SortO (.slice oo rs.length oc) rs wr HS.out.a (by omega)).mono ?_
   rintro e w4 ⟨v4, rfl, ho4, hb4⟩
   have HT4 := Lib.hid (HT.out.later hb4)
   rw [HES.out, RES.out] at ho4
   have HR := Lib.hid (own_mono ho4 HT.out.low.size)
   obtain ⟨a4, c4', rfl⟩ := own_form HR.out
   clear HT HO HP HS ho4 hb4 cs fs zs
   go_wp2
   go_ret
   exact ⟨_, rfl, HR.out, HT4.out.low⟩
set_option maxRecDepth 100000 in
set_option maxHeartbeats 8000000 in
theorem ref12_Maximal (P : PolX w v0 v1 v2 v3 l g h qs F PS NS) (h6 : PS.length ≤ 6) (h4 : NS.length ≤ 4) : Calls Tryz.prog 103 #[pv v0 v1 v2 v3] w fun e w' => ∃ v, e = .returned v ∧ Sl w' 9 v (maxS l g PS NS).length ((maxS l g PS NS).flatMap St.cells) ∧ Below w.heap.size w w' := by
 have RO := Lib.hid (fun W (hb : Below w.heap.size w W) => ref12_Roles (P.below hb) h6 h4)
 have PR := Lib.hid (fun W (hb : Below w.heap.size w W) => ref12_Prins (P.below hb))
 have hpx := putX_len PS
 have HL := Lib.hid P.at_.rs
 have hl := P.hl
 have hrx : (rolesX PS NS g).length ≤ 7 * 4 := Nat.le_trans (rolesX_len PS NS g) (Nat.mul_le_mul (by omega) h4)
 have RES := Lib.hid (show insAll [] (l ++ memsX (rolesX PS NS g) (putX PS)) = maxS l g PS NS from rfl)
 obtain ⟨a0, c0, rfl⟩ := P.at_.rs.form
 obtain ⟨a1, c1, rfl⟩ := P.at_.rg.form
 obtain ⟨a2, c2, rfl⟩ := P.at_.rh.form
 obtain ⟨a3, c3, rfl⟩ := P.at_.rq.form
 have HT := Lib.hid (show OneAt w #[.slice a0 l.length c0, .slice a1 g.length c1, .slice a2 h.length c2, .slice a3 qs.length c3] (w.alloc (.cells #[.slice a0 l.length c0, .slice a1 g.length c1, .slice a2 h.length c2, .slice a3 qs.length c3] 26)) from ⟨Blk.new w _ _, (Below.refl _ _).alloc (Nat.le_refl _) _⟩)
 clear P
 generalize putX PS = PX at *
 generalize rolesX PS NS g = RX at *
 have hp7 : PX.length ≤ 7 := by omega
 generalize maxS l g PS NS = ms at *
 obtain ⟨wA, hwA⟩ : ∃ W, W = w.alloc (.cells #[.slice a0 l.length c0, .slice a1 g.length c1, .slice a2 h.length c2, .slice a3 qs.length c3] 26) := ⟨_, rfl⟩
 have hwz : wA.heap.size = w.heap.size + 1 := by rw [hwA]; simp
 have HLA := Lib.hid (HL.out.below HT.out.low)
 rw [← hwA] at HT HLA
 go_enter Tryz.func103, Tryz.ntmps103
 go_wp2_with (at_builtin; refine halt_ ?_)
 unfold Halt_
 have own0 := (World.ownsRow_made (e := 35) (size := 9) wA #[] 0 (Nat.le_refl _) (Nat.zero_le _) (by simp))
 have HT1 := Lib.hid (HT.out.alloc (.cells #[] 35))
 have HL1 := Lib.hid (HLA.out.below ((Below.refl _ wA).alloc (Nat.le_refl _) (.cells #[] 35)))
 rw [hwz] at own0
 subst hwA
 refine app_row Tryz.underlying22 st_info rfl (by decide) (by decide) rfl _ _ rfl (w.heap.size + 1) rfl own0 rfl HL1.out (sts_one _) (by omega) (by simp) ?_
 intro x1 y1 w1 hown1 hg1
 have HT2 := Lib.hid (show OneAt w #[.slice a0 l.length c0, .slice a1 g.length c1, .slice a2 h.length c2, .slice a3 qs.length c3] w1 from ⟨HT1.out.a.grown hg1 (own_gt_ne own0 (Nat.lt_succ_self _)), below_own HT1.out.low own0 hg1 HT1.out.low.size (Nat.le_succ _)⟩)
 have HO1 := Lib.hid (show w1.ownsRow (w.heap.size + 1) 35 9 (.slice x1 l.length y1) l.length (l.flatMap St.cells) by simpa using hown1)
 clear hown1 hg1 own0 HT1 HL1 HLA HT
 obtain ⟨cs, fs, zs⟩ := HT2.out.a
 go_wp2_with fail
 refine (RO.out _ HT2.out.low).mono ?_
 rintro e w2 ⟨vr, rfl, hor, hb2⟩
 obtain ⟨ar, cr, rfl⟩ := own_form hor
 have HT := Lib.hid (HT2.out.later hb2)
 have HO := Lib.hid (own_below HO1.out hb2)
 have HR := Lib.hid hor
 clear hor hb2 RO cs fs zs HT2 HO1
 go_wp2_with fail
 go_loopw [3, 15] (fun vo i wr => ∃ (k : Nat) (rs : List St), k ≤ RX.length ∧ i = .int .i64 k ∧ Hid (rs = l ++ memsX (RX.take k) PX) ∧ Hid (OneAt w #[.slice a0 l.length c0, .slice a1 g.length c1, .slice a2 h.length c2, .slice a3 qs.length c3] wr) ∧ Hid (wr.ownsRow (w.heap.size + 1) 35 9 vo rs.length (rs.flatMap St.cells)) ∧ Hid (wr.ownsRow w1.heap.size 28 2 (.slice ar RX.length cr) RX.length (RX.flatMap Rl.cells))) (fun _ i _ => RX.length - (intOf i).toNat)
 case atStart => exact ⟨0, l, by omega, rfl, Lib.hid (by simp [memsX]), HT, HO, HR⟩
 case round =>
  clear HT HO HR
  obtain ⟨k, rs, hk, rfl, HE, HT, HO, HR⟩ := hrel
  obtain ⟨oo, oc, rfl⟩ := own_form HO.out
  have hrl : rs.length ≤ 100 + 28 * 7 := by rw [HE.out, List.length_append, memsX_len]; exact Nat.add_le_add hl (Nat.mul_le_mul (by have := List.length_take_le k RX; omega) hp7)
  by_cases hlt : k < RX.length
  ·obtain ⟨b1, o1, e1, he1, hc1, hm1', hb1, hx1⟩ := (Sl.of_own HR.out).pos (by omega)
   simp only [Value.slice.injEq, true_and] at he1
   obtain ⟨rfl, rfl⟩ := he1
   obtain ⟨p0, p1⟩ := rl_cell hx1 k hlt
   have HF := Lib.hid (memsX_snoc (A := PX) hlt)
   clear hx1
   generalize RX[k] = x at *
   obtain ⟨x1, x2⟩ := x
   have HT2 := Lib.hid (HT.out.alloc (.cells #[.string x1, .string x2] 28))
   have HO2 := Lib.hid (HO.out.alloc (.cells #[.string x1, .string x2] 28))
   have HR2 := Lib.hid (HR.out.alloc (.cells #[.string x1, .string x2] 28))
   have HX2 := Lib.hid (show CAt (wr.alloc (.cells #[.string x1, .string x2] 28)) wr.heap.size #[.string x1, .string x2] 28 from heap_new1 _ _)
   obtain ⟨cs, fs, zs⟩ := HT2.out.a
   have hwr : w.heap.size < wr.heap.size := HT.out.a.2.2
   go_wp2_with fail
   refine (PR.out _ HT2.out.low).mono ?_
   rintro e w4 ⟨vp, rfl, hop, hb4⟩
   obtain ⟨ap, cp, rfl⟩ := own_form hop
   have HT4 := Lib.hid (HT2.out.later hb4)
   have HO4 := Lib.hid (own_below HO2.out hb4)
   have HR4 := Lib.hid (own_below HR2.out hb4)
   have HX4 := Lib.hid (HX2.out.below hb4)
   have HP4 := Lib.hid (own_mono hop (Nat.zero_le _))
   clear hop hb4 cs fs zs p0 p1 HT HO HR HT2 HO2 HR2 HX2
   obtain ⟨gx, hgx⟩ : ∃ g, g = wr.heap.size := ⟨_, rfl⟩
   rw [← hgx] at HX4 ⊢
   clear hgx
   go_wp2_with fail
   go_loopw [3, 22] (fun vo i wr2 => ∃ (j : Nat) (ss : List St), j ≤ PX.length ∧ i = .int .i64 j ∧ Hid (ss = rs ++ (PX.take j).map (memS ⟨x1, x2⟩)) ∧ Hid (OneAt w #[.slice a0 l.length c0, .slice a1 g.length c1, .slice a2 h.length c2, .slice a3 qs.length c3] wr2) ∧ Hid (wr2.ownsRow (w.heap.size + 1) 35 9 vo ss.length (ss.flatMap St.cells)) ∧ Hid (wr2.ownsRow w1.heap.size 28 2 (.slice (some ⟨b1, o1, none⟩) RX.length cr) RX.length (RX.flatMap Rl.cells)) ∧ Hid (wr2.ownsRow 0 9 1 (.slice ap PX.length cp) PX.length (strs PX)) ∧ Hid (CAt wr2 gx #[.string x1, .string x2] 28)) (fun _ i _ => PX.length - (intOf i).toNat)
   case atStart => exact ⟨0, rs, by omega, rfl, Lib.hid (by simp), HT4, HO4, HR4, HP4, HX4⟩
   case round =>
    clear HT4 HO4 HR4 HP4 HX4
    obtain ⟨j, ss, hj, rfl, HE2, HT, HO, HR, HP, HX⟩ := hrel
    obtain ⟨oo, oc, rfl⟩ := own_form HO.out
    obtain ⟨cs, fs, zs⟩ := HX.out.blk
    have hsl : ss.length ≤ rs.length + 7 := by rw [HE2.out, List.length_append, List.length_map]; have := List.length_take_le j PX; omega
    by_cases hlt2 : j < PX.length
    ·obtain ⟨b2, o2, rfl, q0, hc2, hm2, hb2⟩ := own_text HP.out hlt2 rfl
     have HF2 := Lib.hid (map_snocT (f := memS ⟨x1, x2⟩) hlt2)
     generalize PX[j] = y at *
     go_wp2_with (at_builtin; refine halt_ ?_)
     unfold Halt_
     refine app_own Tryz.underlying22 st_info rfl (by decide) (by decide) rfl _ _ rfl (w.heap.size + 1) rfl (HO.out.alloc _) [.int .i64 1, .string x1, .string x2, .string y, .string emp, .string emp, .string emp, .string emp, .string emp] rfl (heap_new1 _ _) rfl (st1s _ _ _ _ _ _ _ _ _) ?_ ?_ ?_
     ·omega
     ·have := HT.out.a.2.2; simp; omega
     intro a' cap' w5 hown' hgrow
     obtain ⟨q1, q2⟩ := push_at St.cells (x := memS ⟨x1, x2⟩ y) HT.out HO.out hown' hgrow
     have HX5 := Lib.hid ((HX.out.alloc _).grown (HO.out.alloc _) hgrow (by decide))
     have HP5 := Lib.hid (own_far (HP.out.alloc _) (HO.out.alloc _) hgrow (by decide))
     have HR5 := Lib.hid (own_far (HR.out.alloc _) (HO.out.alloc _) hgrow (by decide))
     have HO5 := Lib.hid q1
     have HT5 := Lib.hid q2
     clear hown' hgrow q1 q2 cs fs zs q0
     go_wp2_with fail
     exact ⟨⟨j + 1, ss ++ [memS ⟨x1, x2⟩ y], by omega, by go_num, Lib.hid (by rw [HF2.out, HE2.out]; simp), HT5, HO5, HR5, HP5, HX5⟩, by simp [intOf]; omega⟩
    ·have HES := Lib.hid (show ss = l ++ memsX (RX.take (k + 1)) PX by rw [HF.out, HE2.out, HE.out, List.take_of_length_le (show PX.length ≤ j by omega), List.append_assoc])
     go_wp2_with fail
     exact ⟨⟨k + 1, ss, by omega, by go_num, HES, HT, HO, HR⟩, by simp [intOf]; omega⟩
  ·have HES := Lib.hid (show rs = l ++ memsX RX PX by rw [HE.out, List.take_of_length_le (show RX.length ≤ k by omega)])
   have HS := Lib.hid (Sl.of_own HO.out)
   go_wp2_with fail
   refine (ref3_Sort (.slice oo rs.length oc) rs wr HS.out.a (by omega)).mono ?_
   rintro e w4 ⟨v4, rfl, hs4, hb4⟩
   rw [HES.out, RES.out] at hs4
   obtain ⟨a4, c4', rfl⟩ := hs4.form
   have HT := Lib.hid (HT.out.later hb4)
   have HS4 := Lib.hid hs4
   clear hs4 hb4
   go_wp2
   go_ret
   exact ⟨_, rfl, HS4.out, HT.out.low⟩
end
end Go.Proofs.YtcmdhfccdkjenaaGreatDoor
namespace Go.Proofs.YtcmdhfccdkjenaaGreatDoor
open Go.RowKit Go.Shelf

section
variable {w : World} {b1 b2 : Nat}
end
end Go.Proofs.YtcmdhfccdkjenaaGreatDoor
namespace Go.Proofs.YtcmdhfccdkjenaaGreatDoor
open Go.RowKit Go.Shelf

theorem who_ex2 {w w' : World} {qs : List Qv} (h : ∀ q ∈ qs, q.ok w) (h' : ∀ q ∈ qs, q.okN 40 w') : ∃ F, WhoF w qs F ∧ ∀ q ∈ qs, ∀ s ∈ F q, s.size ≤ 9223372036854775807 := by
 have key : ∀ q, ∃ ss : List ByteArray, q ∈ qs → (SlA w 1 q.w ss.length (strs ss) ∧ ss.length ≤ 40 ∧ ∀ s ∈ ss, s.size ≤ 9223372036854775807) := by
  intro q
  by_cases hq : q ∈ qs
  ·obtain ⟨_, _, ss, h1, h2⟩ := h q hq
   obtain ⟨_, _, ss', h3, h4, _⟩ := h' q hq
   obtain ⟨a, c, e⟩ := h1.form
   obtain ⟨a', c', e'⟩ := h3.form
   rw [e] at e'
   simp only [Value.slice.injEq] at e'
   exact ⟨ss, fun _ => ⟨h1, by rw [e'.2.1]; exact h4, h2⟩⟩
  ·exact ⟨[], fun h' => absurd h' hq⟩
 refine ⟨fun q => (key q).choose, fun q hq => ⟨((key q).choose_spec hq).1, ((key q).choose_spec hq).2.1⟩, fun q hq => ((key q).choose_spec hq).2.2⟩
structure GoodP (l : List St) (g h : List Rl) (qs : List Qv) (F : Qv → List ByteArray) : Prop where
 right : ∀ s ∈ l, rightS s = true
 ps : (newB (allPrins l g h qs F)).length ≤ 16
 ns : (newB (allNames l g h qs)).length ≤ 12
theorem RightP.good {l : List St} {g h : List Rl} {qs : List Qv} {F : Qv → List ByteArray} (hr : RightP l g h qs F) : GoodP l g h qs F := by
 obtain ⟨h1, _, _, _, _, _, h2⟩ := hr
 unfold fitsP at h2
 simp only [Bool.and_eq_true, decide_eq_true_iff] at h2
 exact ⟨h1, h2.2.1, h2.2.2⟩
end Go.Proofs.YtcmdhfccdkjenaaGreatDoor
namespace Go.Proofs.YtcmdhfccdkjenaaGreatDoor
open Go.RowKit Go.Shelf

theorem RightP.polx {w : World} {v0 v1 v2 v3 : Value} {l : List St} {g h : List Rl} {qs : List Qv} {F : Qv → List ByteArray} (hr : RightP l g h qs F) (hp : PolAt w v0 v1 v2 v3 l g h qs) (hT : TB w) (hl : l.length ≤ 30) (hg : g.length ≤ 30) (hh : h.length ≤ 30) (hq : qs.length ≤ 30) (hF : WhoF w qs F) (hs : allLe l 40) :
  PolX w v0 v1 v2 v3 l g h qs F (newB (allPrins l g h qs F)) (newB (allNames l g h qs)) :=
 ⟨hp, by omega, by omega, by omega, by omega, hF, fun x hx => (hs x hx).mono (by decide), hT, rfl, rfl, by have := hr.good.ps; omega, by have := hr.good.ns; omega, hr.1, hr.names.1, hr.names.2⟩
theorem sound_in {l : List St} {A B : List ByteArray} (h : ∀ s ∈ l, InAB A B s) {ps : List Pr} (hs : SoundS l ps) : ∀ p ∈ ps, (p.1.o ∈ A ∧ p.1.n ∈ B) ∧ p.2 ∈ A := by
 refine hs (fun r x => (r.o ∈ A ∧ r.n ∈ B) ∧ x ∈ A) ⟨fun s hs hk => ⟨(h s hs).r _ (roles_head s), (h s hs).w _ (by unfold whoS; rw [if_pos hk]; simp)⟩, fun s hs _ x hx => ⟨(h s hs).r _ (roles_head s), hx.2⟩, fun s hs _ x y _ hy => ⟨(h s hs).r _ (roles_head s), hy.2⟩, fun s hs _ x hx _ => ⟨(h s hs).r _ (roles_head s), hx.2⟩⟩
theorem sound_few {l : List St} {A B : List ByteArray} (h : ∀ s ∈ l, InAB A B s) : ∀ ps : List Pr, ps.Nodup → SoundS l ps → ps.length ≤ A.length * B.length * A.length := by
 intro ps hn hs
 have hl : ((allR A B).flatMap (fun r => A.map (fun x => (r, x)))).length = A.length * B.length * A.length := by
  rw [← allR_len]
  induction allR A B with
  | nil => simp
  | cons a r ih => rw [List.flatMap_cons, List.length_append, ih, List.length_map, List.length_cons, Nat.add_mul, Nat.one_mul, Nat.add_comm]
 rw [← hl]
 refine nodup_le _ _ hn (fun p hp => ?_)
 obtain ⟨h1, h2⟩ := sound_in h hs p hp
 exact List.mem_flatMap.2 ⟨p.1, allR_mem.2 h1, List.mem_map.2 ⟨p.2, h2, rfl⟩⟩
end Go.Proofs.YtcmdhfccdkjenaaGreatDoor
namespace Go.Proofs.YtcmdhfccdkjenaaGreatDoor
open Go.RowKit Go.Shelf

theorem Sl.setBlk {w : World} {size n b o : Nat} {v x : Value} {xs : List Value} {A : Array Value} (h : Sl w size v n xs) (hg : Blk w b A) (hs : A.size < size) : Sl (w.setCell ⟨b, o, none⟩ x) size v n xs := by
 obtain ⟨h1, h2, h3⟩ := h
 refine ⟨h1, h2, ?_⟩
 rcases h3 with h3 | ⟨b', off, cap, hv, hc, hm, hb, hcell⟩
 ·exact .inl h3
 ·refine .inr ⟨b', off, cap, hv, hc, hm, by simpa using hb, fun j u hu => ?_⟩
  by_cases e : b = b'
  ·subst e
   exfalso
   have hj : j < xs.length := (List.getElem?_eq_some_iff.1 hu).1
   have hn : 1 ≤ n := by
    rcases Nat.eq_zero_or_pos n with h0 | h0
    ·rw [h1, h0, Nat.zero_mul] at hj; omega
    ·exact h0
   have hlast : size - 1 < xs.length := by have := Nat.mul_le_mul_right size hn; omega
   have h4 := hcell (size - 1) _ (List.getElem?_eq_getElem hlast)
   rw [hg.1, Array.getElem?_eq_none (by omega)] at h4
   cases h4
  ·exact (cell_far _ _ _ _ _ _ e).trans (hcell j u hu)
theorem SlA.setBlk {w : World} {size n b o : Nat} {v x : Value} {xs : List Value} {A : Array Value} (h : SlA w size v n xs) (hg : Blk w b A) (hs : A.size < size) : SlA (w.setCell ⟨b, o, none⟩ x) size v n xs := by
 rcases h with h | h
 ·exact .inl (h.setBlk hg hs)
 ·exact .inr h
theorem SlA.putsBlk {size n b : Nat} {v : Value} {xs : List Value} : ∀ (vs : List Value) (o : Nat) (w : World) (A : Array Value), SlA w size v n xs → Blk w b A → A.size < size → o + vs.length ≤ A.size → SlA (puts w b o vs) size v n xs
 | [], _, _, _, h, _, _, _ => h
 | y :: vs, o, w, A, h, hg, hs, ho => by
  rw [List.length_cons] at ho
  exact SlA.putsBlk vs (o + 1) _ _ (h.setBlk hg hs) (hg.put (by omega)) (by simpa using hs) (by simp; omega)
structure TriAt (w : World) (A B C : Array Value) (wx : World) : Prop where
 a : Blk wx w.heap.size A
 b : Blk wx (w.heap.size + 1) B
 c : Blk wx (w.heap.size + 1 + 1) C
 low : Below w.heap.size w wx
theorem TriAt.later {w wx w' : World} {A B C : Array Value} (h : TriAt w A B C wx) (hb : Below wx.heap.size wx w') : TriAt w A B C w' := ⟨h.a.below hb, h.b.below hb, h.c.below hb, h.low.trans (hb.mono h.low.size)⟩
theorem TriAt.new (w : World) (A B C : Array Value) (t u s : TypeId) : TriAt w A B C (((w.alloc (.cells A t)).alloc (.cells B u)).alloc (.cells C s)) :=
 ⟨((Blk.new w A t).alloc _).alloc _, (by have := Blk.new (w.alloc (.cells A t)) B u; simpa using this.alloc _), by have := Blk.new ((w.alloc (.cells A t)).alloc (.cells B u)) C s; simpa using this, (((Below.refl _ _).alloc (Nat.le_refl _) _).alloc (by simp) _).alloc (by simp; omega) _⟩
theorem Blk.four0 {w : World} {g : Nat} {z0 z1 z2 z3 : Value} (h : Blk w g #[z0, z1, z2, z3]) (x0 x1 x2 x3 : Value) : Blk (puts w g 0 [x0, x1, x2, x3]) g #[x0, x1, x2, x3] := by
 have h := (((h.put (o := 0) (v := x0) (by simp)).put (o := 1) (v := x1) (by simp)).put (o := 2) (v := x2) (by simp)).put (o := 3) (v := x3) (by simp)
 simp at h
 exact h
theorem TriAt.putsA {w wx : World} {B C : Array Value} {z0 z1 z2 z3 : Value} (h : TriAt w #[z0, z1, z2, z3] B C wx) (x0 x1 x2 x3 : Value) : TriAt w #[x0, x1, x2, x3] B C (puts wx w.heap.size 0 [x0, x1, x2, x3]) :=
 ⟨h.a.four0 x0 x1 x2 x3, h.b.puts_far (by omega) _ 0 wx, h.c.puts_far (by omega) _ 0 wx, below_puts (by omega) _ 0 wx h.low⟩
theorem TriAt.setC {w wx : World} {A B C : Array Value} {o : Nat} {v : Value} (h : TriAt w A B C wx) (ho : o < C.size) : TriAt w A B (C.setIfInBounds o v) (wx.setCell ⟨w.heap.size + 1 + 1, o, none⟩ v) :=
 ⟨h.a.far (by omega), h.b.far (by omega), h.c.put ho, below_put h.low (by omega)⟩
theorem TriAt.putsC {w wx : World} {A B : Array Value} {z0 z1 z2 z3 : Value} (h : TriAt w A B #[z0, z1, z2, z3] wx) (x0 x1 x2 x3 : Value) : TriAt w A B #[x0, x1, x2, x3] (puts wx (w.heap.size + 1 + 1) 0 [x0, x1, x2, x3]) :=
 ⟨h.a.puts_far (by omega) _ 0 wx, h.b.puts_far (by omega) _ 0 wx, h.c.four0 x0 x1 x2 x3, below_puts (by omega) _ 0 wx h.low⟩
structure SimIn (w : World) (v0 v1 v2 v3 : Value) (l : List St) (g h : List Rl) (qs : List Qv) (q : Qv) (us PS NS : List ByteArray) : Prop where
 at_ : PolAt w v0 v1 v2 v3 l g h qs
 hu : SlA w 1 q.w us.length (strs us)
 qok : q.ok w
 hl : l.length ≤ 30
 hg : g.length ≤ 30
 hh : h.length ≤ 30
 l40 : allLe l 40
 gh : ∀ x ∈ g ++ h, x.le 40
 qa : q.a.le 40
 qb : q.b.le 40
 ul : us.length ≤ 40
 uz : ∀ s ∈ us, s.size ≤ 9223372036854775807
 hT : TB w
 right : RightP l g h [q] (fun _ => us)
 q6 : ¬ q.k = 6
 eP : newB (allPrins l g h [q] (fun _ => us)) = PS
 eN : newB (allNames l g h [q]) = NS
 h6 : PS.length ≤ 16
 h4 : NS.length ≤ 12
section
variable {w W : World} {v0 v1 v2 v3 vq : Value} {l : List St} {g h : List Rl} {qs : List Qv} {q : Qv} {us PS NS : List ByteArray}
theorem SimIn.below (P : SimIn w v0 v1 v2 v3 l g h qs q us PS NS) (hb : Below w.heap.size w W) : SimIn W v0 v1 v2 v3 l g h qs q us PS NS :=
 ⟨P.at_.below hb, P.hu.below hb, P.qok.below hb, P.hl, P.hg, P.hh, P.l40, P.gh, P.qa, P.qb, P.ul, P.uz, P.hT.below hb, P.right, P.q6, P.eP, P.eN, P.h6, P.h4⟩
theorem SimIn.whoF (P : SimIn w v0 v1 v2 v3 l g h qs q us PS NS) (hb : Below w.heap.size w W) : WhoF W [q] (fun _ => us) := fun x hx => by
 rw [List.mem_singleton.1 hx]; exact ⟨P.hu.below hb, P.ul⟩
theorem SimIn.polx (P : SimIn w v0 v1 v2 v3 l g h qs q us PS NS) (hb : Below w.heap.size w W) (hq : SlA W 6 vq 1 q.cells) : PolX W v0 v1 v2 vq l g h [q] (fun _ => us) PS NS := by
 have := P.right.polx (P.at_.only hb hq P.qok) (P.hT.below hb) P.hl P.hg P.hh (by simp) (P.whoF hb) P.l40
 rw [P.eP, P.eN] at this
 exact this
theorem SimIn.rightQ (P : SimIn w v0 v1 v2 v3 l g h qs q us PS NS) : rightQ q us = true := P.right.2.2.1 q (List.mem_singleton.2 rfl)
theorem sim_Right (P : SimIn w v0 v1 v2 v3 l g h qs q us PS NS) (hb : Below w.heap.size w W) (hq : SlA W 6 vq 1 q.cells) :
  Calls Tryz.prog 94 #[pv v0 v1 v2 vq] W fun e w' => e = .returned (.bool true) ∧ Below W.heap.size W w' := by
 have hle : ∀ {x : Rl}, x.le 40 → x.le 4294967 := fun h => h.mono (by decide)
 refine (policy_RightL v0 v1 v2 vq l g h [q] W (P.at_.only hb hq P.qok) (by have := P.hl; omega) (by have := P.hg; omega) (by have := P.hh; omega) (by simp) (fun x hx => (P.l40 x hx).mono (by decide)) (fun x hx => hle (P.gh x hx))
  (fun x hx => by rw [List.mem_singleton.1 hx]; exact ⟨hle P.qa, hle P.qb⟩) (fun _ => us) (P.whoF hb) (fun x hx => P.uz)).mono ?_
 rintro e w' ⟨⟨b, rfl, hi⟩, hb'⟩
 rw [hi.2 P.right]
 exact ⟨rfl, hb'⟩
theorem sim_IsT (P : SimIn w v0 v1 v2 v3 l g h qs q us PS NS) (hb : Below w.heap.size w W) :
  Calls Tryz.prog 31 #[qv q] W fun e w' => e = .returned (.bool true) ∧ Below W.heap.size W w' := by
 refine (sim_Is q us W (P.qa.mono (by decide)) (P.qb.mono (by decide)) (P.hu.below hb) P.uz).mono ?_
 rintro e w' ⟨rfl, hb'⟩
 rw [P.rightQ, decide_eq_false P.q6]
 exact ⟨rfl, hb'⟩
def SameM (A B : List ByteArray) (S : List St) : Prop := A.length ≤ 64 ∧ B.length ≤ 1000 ∧ AscB A ∧ AscB B ∧ ∀ s ∈ S, (ruleN A B s).2 = true
theorem SimIn.lowM (P : SimIn w v0 v1 v2 v3 l g h qs q us PS NS) : SameM PS NS (minS l h) := by
 have hs := P.right.1
 have e1 := P.eP
 have e2 := P.eN
 have h6 := P.h6
 have h4 := P.h4
 subst e1 e2
 exact ⟨by omega, by omega, new_asc _, new_asc _, fun s hs' => ruleN_in (hs s (List.mem_filter.1 hs').1) (stmt_inAB (List.mem_filter.1 hs').1)⟩
theorem PolX.highM {F : Qv → List ByteArray} (P : PolX W v0 v1 v2 v3 l g h qs F PS NS) (h6 : PS.length ≤ 16) (h4 : NS.length ≤ 12) : SameM (putX PS) NS (maxS l g PS NS) := by
 have hpx := putX_len PS
 exact ⟨by omega, by omega, putX_asc P.ascP, P.ascN, P.max_ok h6⟩
theorem sim_LowEval (P : SimIn w v0 v1 v2 v3 l g h qs q us PS NS) (hb : Below w.heap.size w W) (hq : SlA W 6 vq 1 q.cells) :
  Calls Tryz.prog 86 #[pv v0 v1 v2 vq] W fun e w' => ∃ t M fs st, e = .returned (.tuple #[.pointer (some ⟨t, 0, none⟩), .pointer (some ⟨M, 0, none⟩)]) ∧ TmAt w' t M PS NS (minS l h) fs st ∧ Below W.heap.size W w' := by
 have X := P.polx hb hq
 have := low_Eval v0 v1 v2 vq l g h [q] W X.at_ X.hl X.hg X.hh X.hq (fun _ => us) X.hF X.hs X.hT (by rw [X.eP]; have := P.h6; omega) (by rw [X.eN]; have := P.h4; omega)
 rw [X.eP, X.eN] at this
 exact this
theorem sim_LowState (P : SimIn w v0 v1 v2 v3 l g h qs q us PS NS) (hb : Below w.heap.size w W) (hq : SlA W 6 vq 1 q.cells) :
  Calls Tryz.prog 19 #[pv v0 v1 v2 vq] W fun e w' => ∃ v, e = .returned v ∧ Sl w' 9 v (minS l h).length ((minS l h).flatMap St.cells) ∧ Below W.heap.size W w' :=
 low_Minimal v0 v1 v2 vq l g h [q] W (P.polx hb hq).at_ (by have := P.hl; omega)
theorem sim_HighEval (P : SimIn w v0 v1 v2 v3 l g h qs q us PS NS) (hb : Below w.heap.size w W) (hq : SlA W 6 vq 1 q.cells) :
  Calls Tryz.prog 95 #[pv v0 v1 v2 vq] W fun e w' => ∃ t M fs st, e = .returned (.tuple #[.pointer (some ⟨t, 0, none⟩), .pointer (some ⟨M, 0, none⟩)]) ∧ TmAt w' t M (putX PS) NS (maxS l g PS NS) fs st ∧ Below W.heap.size W w' :=
 high_Eval (P.polx hb hq) P.h6 P.h4
theorem sim_HighState (P : SimIn w v0 v1 v2 v3 l g h qs q us PS NS) (hb : Below w.heap.size w W) (hq : SlA W 6 vq 1 q.cells) :
  Calls Tryz.prog 96 #[pv v0 v1 v2 vq] W fun e w' => ∃ v, e = .returned v ∧ Sl w' 9 v (maxS l g PS NS).length ((maxS l g PS NS).flatMap St.cells) ∧ Below W.heap.size W w' :=
 high_Maximal (P.polx hb hq) P.h6 P.h4
theorem sim_Univ {k : Int} {b : Bool} (hu : univB k = b) (w : World) : Calls Tryz.prog 99 #[.int .i64 k] w fun e w' => e = .returned (.bool b) ∧ w' = w := by
 rw [← hu]; exact query_Universal k w
theorem sim_Sat {t M st : Nat} {A B : List ByteArray} {S : List St} {fs : List (Nat × Nat)} {ps : List Pr} (P : SimIn w v0 v1 v2 v3 l g h qs q us PS NS) (hb : Below w.heap.size w W) (hm : TmAt W t M A B S fs st) (hS : SameM A B S) (hL : LeastS S (fun r x => (r, x) ∈ ps)) :
  Calls Tryz.prog 38 #[.func (.func 97) #[.agg #[.pointer (some ⟨t, 0, none⟩), .pointer (some ⟨M, 0, none⟩)]] #[], qv q] W fun e w' => e = .returned (.bool (satQ (membersP ps) q us)) ∧ Below W.heap.size W w' := by
 obtain ⟨ha, hb1, hc, hd, he⟩ := hS
 refine sim_Satisfies _ _ _ (enters_of Tryz.func97 (by kernel_rfl) rfl) _ q us W (P.hu.below hb) (fun r V hV => ?_)
 have hm' := hm.below hV
 obtain ⟨F, W0, g0, hmod⟩ := hm'.mod
 have := (sim_members hm' (P.hT.below (hb.trans (hV.mono hb.size))) r).mono (R' := fun e w' => ∃ a c, e = .returned (.slice a (membersP ps r).length c) ∧ SlA w' 1 (.slice a (membersP ps r).length c) (membersP ps r).length (strs (membersP ps r)) ∧ Below V.heap.size V w') (by
  rintro e w' ⟨v, rfl, hsl, hb'⟩
  rw [model_members hc hd ha hb1 he hL hm'.least hm'.rng r] at hsl
  obtain ⟨a, c, rfl⟩ := hsl.form
  exact ⟨a, c, rfl, hsl.a, hb'⟩)
 simpa using this
end
def kindV (u ok : Bool) : Int := if u then (if ok then 1 else 2) else (if ok then 3 else 4)
def DecP (S : List St) (q : Qv) (us : List ByteArray) (e : Ending) (w' : World) : Prop := ∃ (a : Option Addr) (c : Nat) (st : Nat) (T : List St) (ps : List Pr), e = .returned (.tuple #[.agg #[.int .i64 (kindV (univB q.k) (satQ (membersP ps) q us)), .slice a T.length c, .int .i64 st, .int .i64 0], .int .i64 0]) ∧ LeastS S (fun r x => (r, x) ∈ ps) ∧ SlA w' 9 (.slice a T.length c) T.length (T.flatMap St.cells) ∧ T = if univB q.k = satQ (membersP ps) q us then [] else S
end Go.Proofs.YtcmdhfccdkjenaaGreatDoor
namespace Go.Proofs.YtcmdhfccdkjenaaGreatDoor
open Go.RowKit Go.Shelf

set_option maxRecDepth 100000 in
set_option maxHeartbeats 8000000 in
theorem sim_Decide1 (v0 v1 v2 v3 : Value) (l : List St) (g h : List Rl) (qs : List Qv) (q : Qv) (us PS NS : List ByteArray) (w : World) (P : SimIn w v0 v1 v2 v3 l g h qs q us PS NS) (hk : q.k = 1) :
  Calls Tryz.prog 28 #[pv v0 v1 v2 v3, qv q] w fun e w' => DecP (minS l h) q us e w' ∧ Below w.heap.size w w' := by
 have HP := Lib.hid P
 obtain ⟨a0, c0, rfl⟩ := P.at_.rs.form
 obtain ⟨a1, c1, rfl⟩ := P.at_.rg.form
 obtain ⟨a2, c2, rfl⟩ := P.at_.rh.form
 obtain ⟨a3, c3, rfl⟩ := P.at_.rq.form
 obtain ⟨xk, ⟨x1, x2⟩, ⟨x3, x4⟩, wv⟩ := q
 dsimp only at hk
 obtain ⟨wo, wc, e1⟩ := P.hu.form
 dsimp only at e1
 subst hk e1
 clear P
 have HT := Lib.hid (show TriAt w #[.slice a0 l.length c0, .slice a1 g.length c1, .slice a2 h.length c2, .slice a3 qs.length c3] #[.int .i64 1, .string x1, .string x2, .string x3, .string x4, .slice wo us.length wc] #[.int .i64 0, .slice none 0 0, .int .i64 0, .int .i64 0] (((w.alloc (.cells #[.slice a0 l.length c0, .slice a1 g.length c1, .slice a2 h.length c2, .slice a3 qs.length c3] 26)).alloc (.cells #[.int .i64 1, .string x1, .string x2, .string x3, .string x4, .slice wo us.length wc] 45)).alloc (.cells #[.int .i64 0, .slice none 0 0, .int .i64 0, .int .i64 0] 48))
  from TriAt.new w _ _ _ _ _ _)
 go_enter Tryz.func28, Tryz.ntmps28
 go_upto_region 1 with fail
 obtain ⟨wk, hwk⟩ : ∃ W, W = (((w.alloc (.cells #[.slice a0 l.length c0, .slice a1 g.length c1, .slice a2 h.length c2, .slice a3 qs.length c3] 26)).alloc (.cells #[.int .i64 1, .string x1, .string x2, .string x3, .string x4, .slice wo us.length wc] 45)).alloc (.cells #[.int .i64 0, .slice none 0 0, .int .i64 0, .int .i64 0] 48)) := ⟨_, rfl⟩
 rw [← hwk] at HT ⊢
 clear hwk
 obtain ⟨ca, fa, za⟩ := HT.out.a
 obtain ⟨cb, fb, zb⟩ := HT.out.b
 go_wp2_with fail
 refine (sim_Only (.slice a0 l.length c0) (.slice a1 g.length c1) (.slice a2 h.length c2) (.slice a3 qs.length c3) l g h qs ⟨1, ⟨x1, x2⟩, ⟨x3, x4⟩, .slice wo us.length wc⟩ wk (HP.out.at_.below HT.out.low)).mono ?_
 rintro e w1 ⟨vq, rfl, hvq, hb1⟩
 obtain ⟨qa, qc, rfl⟩ := hvq.form
 have HT := Lib.hid (HT.out.later hb1)
 have HQ := Lib.hid hvq
 clear hvq hb1 ca fa za cb fb zb
 obtain ⟨ca, fa, za⟩ := HT.out.a
 go_upto_region 2 with fail
 obtain ⟨w2, hw2⟩ : ∃ W, W = puts w1 w.heap.size 0 [.slice a0 l.length c0, .slice a1 g.length c1, .slice a2 h.length c2, .slice qa 1 qc] := ⟨_, rfl⟩
 have hch : ((((w1.setCell ⟨w.heap.size, 0, none⟩ (.slice a0 l.length c0)).setCell ⟨w.heap.size, 1, none⟩ (.slice a1 g.length c1)).setCell ⟨w.heap.size, 2, none⟩ (.slice a2 h.length c2)).setCell ⟨w.heap.size, 3, none⟩ (.slice qa 1 qc)) = w2 := hw2.symm
 rw [hch]
 have HQ := Lib.hid (HQ.out.putsBlk [.slice a0 l.length c0, .slice a1 g.length c1, .slice a2 h.length c2, .slice qa 1 qc] 0 w1 _ HT.out.a (by simp) (by simp))
 have HT := Lib.hid (HT.out.putsA (.slice a0 l.length c0) (.slice a1 g.length c1) (.slice a2 h.length c2) (.slice qa 1 qc))
 rw [← hw2] at HQ HT
 clear hch hw2 ca fa za
 obtain ⟨ca, fa, za⟩ := HT.out.a
 obtain ⟨cb, fb, zb⟩ := HT.out.b
 go_wp2_with fail
 refine (sim_Right HP.out HT.out.low HQ.out).mono ?_
 rintro e w3 ⟨rfl, hb3⟩
 have HQ := Lib.hid (HQ.out.below hb3)
 have HT := Lib.hid (HT.out.later hb3)
 clear hb3 ca fa za cb fb zb
 obtain ⟨cb, fb, zb⟩ := HT.out.b
 go_wp2_with fail
 refine (sim_IsT HP.out HT.out.low).mono ?_
 rintro e w4 ⟨rfl, hb4⟩
 have HQ := Lib.hid (HQ.out.below hb4)
 have HT := Lib.hid (HT.out.later hb4)
 clear hb4 cb fb zb
 obtain ⟨ca, fa, za⟩ := HT.out.a
 obtain ⟨cb, fb, zb⟩ := HT.out.b
 go_wp2_with fail
 refine (sim_LowEval HP.out HT.out.low HQ.out).mono ?_
 rintro e w5 ⟨t, M, fs, st, rfl, ht, hb5⟩
 have hsm : SameM PS NS (minS l h) := HP.out.lowM
 have HQ := Lib.hid (HQ.out.below hb5)
 have HT := Lib.hid (HT.out.later hb5)
 have HM := Lib.hid ht
 have HS := Lib.hid hsm
 clear hb5 ca fa za cb fb zb ht hsm
 obtain ⟨ps, hps⟩ := least_ex (minS l h)
 have SAT := Lib.hid (sim_Sat HP.out HT.out.low HM.out HS.out hps)
 have HL := Lib.hid hps
 obtain ⟨ok, hok⟩ : ∃ b, b = satQ (membersP ps) ⟨1, ⟨x1, x2⟩, ⟨x3, x4⟩, .slice wo us.length wc⟩ us := ⟨_, rfl⟩
 rw [← hok] at SAT
 have HOK := Lib.hid hok
 clear hps hok
 obtain ⟨cb, fb, zb⟩ := HT.out.b
 go_wp2_with fail
 refine SAT.out.mono ?_
 rintro e w6 ⟨rfl, hb6⟩
 have HQ := Lib.hid (HQ.out.below hb6)
 have HT := Lib.hid (HT.out.later hb6)
 have HM := Lib.hid (HM.out.below hb6)
 clear hb6 cb fb zb SAT HS
 obtain ⟨F5, W0, g0, hm⟩ := HM.out.mod
 have ST := Lib.hid (model_Steps hm)
 clear hm
 go_wp2_with fail
 refine ST.out.mono ?_
 rintro e w7 ⟨rfl, rfl⟩
 clear ST
 obtain ⟨cc, fc, zc⟩ := HT.out.c
 go_upto_region 11 with fail
 have HQ := Lib.hid (HQ.out.setBlk (o := 2) (x := .int .i64 st) HT.out.c (by simp))
 have HT := Lib.hid (show TriAt w _ _ #[.int .i64 0, .slice none 0 0, .int .i64 st, .int .i64 0] _ from HT.out.setC (o := 2) (v := .int .i64 st) (by simp))
 clear cc fc zc
 obtain ⟨w8, hw8⟩ : ∃ W, W = w7.setCell ⟨w.heap.size + 1 + 1, 2, none⟩ (.int .i64 st) := ⟨_, rfl⟩
 rw [← hw8] at HQ HT ⊢
 clear hw8 HM
 obtain ⟨cb, fb, zb⟩ := HT.out.b
 go_wp2_with fail
 refine (sim_Univ (k := 1) (b := true) rfl w8).mono ?_
 rintro e w9 ⟨rfl, rfl⟩
 cases ok with
 | false =>
  go_wp2_with fail
  refine (sim_Univ (k := 1) (b := true) rfl w9).mono ?_
  rintro e w10 ⟨rfl, rfl⟩
  obtain ⟨ca, fa, za⟩ := HT.out.a
  go_wp2_with fail
  refine (sim_LowState HP.out HT.out.low HQ.out).mono ?_
  rintro e w11 ⟨vs, rfl, hvs, hb11⟩
  obtain ⟨sa, sc, rfl⟩ := hvs.form
  have HT := Lib.hid (HT.out.later hb11)
  have HV := Lib.hid hvs
  clear hvs hb11 ca fa za cb fb zb
  obtain ⟨cc, fc, zc⟩ := HT.out.c
  go_upto_region 17 with fail
  have HV := Lib.hid ((HV.out.setBlk (o := 0) (x := .int .i64 2) HT.out.c (by simp)).setBlk (o := 1) (x := .slice sa (minS l h).length sc) (HT.out.setC (o := 0) (v := .int .i64 2) (by simp)).c (by simp)).a
  have HT := Lib.hid (show TriAt w _ _ #[.int .i64 2, .slice sa (minS l h).length sc, .int .i64 st, .int .i64 0] _ from (HT.out.setC (o := 0) (v := .int .i64 2) (by simp)).setC (o := 1) (v := .slice sa (minS l h).length sc) (by simp))
  clear cc fc zc
  obtain ⟨wx, hwx⟩ : ∃ W, W = (w11.setCell ⟨w.heap.size + 1 + 1, 0, none⟩ (.int .i64 2)).setCell ⟨w.heap.size + 1 + 1, 1, none⟩ (.slice sa (minS l h).length sc) := ⟨_, rfl⟩
  rw [← hwx] at HV HT ⊢
  clear hwx
  obtain ⟨cc, fc, zc⟩ := HT.out.c
  go_wp2
  obtain ⟨wy, hwy⟩ : ∃ W, W = puts wx (w.heap.size + 1 + 1) 0 [.int .i64 2, .slice sa (minS l h).length sc, .int .i64 st, .int .i64 0] := ⟨_, rfl⟩
  have hch : ((((wx.setCell ⟨w.heap.size + 1 + 1, 0, none⟩ (.int .i64 2)).setCell ⟨w.heap.size + 1 + 1, 1, none⟩ (.slice sa (minS l h).length sc)).setCell ⟨w.heap.size + 1 + 1, 2, none⟩ (.int .i64 st)).setCell ⟨w.heap.size + 1 + 1, 3, none⟩ (.int .i64 0)) = wy := hwy.symm
  rw [hch]
  have HV := Lib.hid (HV.out.putsBlk [.int .i64 2, .slice sa (minS l h).length sc, .int .i64 st, .int .i64 0] 0 wx _ HT.out.c (by simp) (by simp))
  have HT := Lib.hid (HT.out.putsC (.int .i64 2) (.slice sa (minS l h).length sc) (.int .i64 st) (.int .i64 0))
  rw [← hwy] at HV HT
  clear hch hwy cc fc zc
  obtain ⟨cc, fc, zc⟩ := HT.out.c
  refine bodyPost_ret (v := .tuple #[.agg #[.int .i64 2, .slice sa (minS l h).length sc, .int .i64 st, .int .i64 0], .int .i64 0]) (by simp [results, Tryz.results28, go_sem, cc]) rfl ⟨⟨sa, sc, st, minS l h, ps, ?_, HL.out, HV.out, ?_⟩, HT.out.low⟩
  ·show _ = Ending.returned (.tuple #[.agg #[.int .i64 (kindV (univB 1) (satQ (membersP ps) ⟨1, ⟨x1, x2⟩, ⟨x3, x4⟩, .slice wo us.length wc⟩ us)), .slice sa (minS l h).length sc, .int .i64 st, .int .i64 0], .int .i64 0])
   rw [← HOK.out]
   rfl
  ·show _ = if univB 1 = satQ (membersP ps) ⟨1, ⟨x1, x2⟩, ⟨x3, x4⟩, .slice wo us.length wc⟩ us then [] else _
   rw [← HOK.out]
   rfl
 | true =>
  obtain ⟨cc, fc, zc⟩ := HT.out.c
  go_upto_region 17 with fail
  have HT := Lib.hid (show TriAt w _ _ #[.int .i64 1, .slice none 0 0, .int .i64 st, .int .i64 0] _ from HT.out.setC (o := 0) (v := .int .i64 1) (by simp))
  clear cc fc zc
  obtain ⟨wx, hwx⟩ : ∃ W, W = w9.setCell ⟨w.heap.size + 1 + 1, 0, none⟩ (.int .i64 1) := ⟨_, rfl⟩
  rw [← hwx] at HT ⊢
  clear hwx
  obtain ⟨cc, fc, zc⟩ := HT.out.c
  go_wp2
  obtain ⟨wy, hwy⟩ : ∃ W, W = puts wx (w.heap.size + 1 + 1) 0 [.int .i64 1, .slice none 0 0, .int .i64 st, .int .i64 0] := ⟨_, rfl⟩
  have hch : ((((wx.setCell ⟨w.heap.size + 1 + 1, 0, none⟩ (.int .i64 1)).setCell ⟨w.heap.size + 1 + 1, 1, none⟩ (.slice none 0 0)).setCell ⟨w.heap.size + 1 + 1, 2, none⟩ (.int .i64 st)).setCell ⟨w.heap.size + 1 + 1, 3, none⟩ (.int .i64 0)) = wy := hwy.symm
  rw [hch]
  have HT := Lib.hid (HT.out.putsC (.int .i64 1) (.slice none 0 0) (.int .i64 st) (.int .i64 0))
  rw [← hwy] at HT
  clear hch hwy cc fc zc
  obtain ⟨cc, fc, zc⟩ := HT.out.c
  refine bodyPost_ret (v := .tuple #[.agg #[.int .i64 1, .slice none 0 0, .int .i64 st, .int .i64 0], .int .i64 0]) (by simp [results, Tryz.results28, go_sem, cc]) rfl ⟨⟨none, 0, st, [], ps, ?_, HL.out, (Sl.nil _ _).a, ?_⟩, HT.out.low⟩
  ·show _ = Ending.returned (.tuple #[.agg #[.int .i64 (kindV (univB 1) (satQ (membersP ps) ⟨1, ⟨x1, x2⟩, ⟨x3, x4⟩, .slice wo us.length wc⟩ us)), .slice none 0 0, .int .i64 st, .int .i64 0], .int .i64 0])
   rw [← HOK.out]
   rfl
  ·show _ = if univB 1 = satQ (membersP ps) ⟨1, ⟨x1, x2⟩, ⟨x3, x4⟩, .slice wo us.length wc⟩ us then [] else _
   rw [← HOK.out]
   rfl
set_option maxRecDepth 100000 in
set_option maxHeartbeats 8000000 in
theorem sim_Decide4 (v0 v1 v2 v3 : Value) (l : List St) (g h : List Rl) (qs : List Qv) (q : Qv) (us PS NS : List ByteArray) (w : World) (P : SimIn w v0 v1 v2 v3 l g h qs q us PS NS) (hk : q.k = 4) :
  Calls Tryz.prog 28 #[pv v0 v1 v2 v3, qv q] w fun e w' => DecP (minS l h) q us e w' ∧ Below w.heap.size w w' := by
 have HP := Lib.hid P
 obtain ⟨a0, c0, rfl⟩ := P.at_.rs.form
 obtain ⟨a1, c1, rfl⟩ := P.at_.rg.form
 obtain ⟨a2, c2, rfl⟩ := P.at_.rh.form
 obtain ⟨a3, c3, rfl⟩ := P.at_.rq.form
 obtain ⟨xk, ⟨x1, x2⟩, ⟨x3, x4⟩, wv⟩ := q
 dsimp only at hk
 obtain ⟨wo, wc, e1⟩ := P.hu.form
 dsimp only at e1
 subst hk e1
 clear P
 have HT := Lib.hid (show TriAt w #[.slice a0 l.length c0, .slice a1 g.length c1, .slice a2 h.length c2, .slice a3 qs.length c3] #[.int .i64 4, .string x1, .string x2, .string x3, .string x4, .slice wo us.length wc] #[.int .i64 0, .slice none 0 0, .int .i64 0, .int .i64 0] (((w.alloc (.cells #[.slice a0 l.length c0, .slice a1 g.length c1, .slice a2 h.length c2, .slice a3 qs.length c3] 26)).alloc (.cells #[.int .i64 4, .string x1, .string x2, .string x3, .string x4, .slice wo us.length wc] 45)).alloc (.cells #[.int .i64 0, .slice none 0 0, .int .i64 0, .int .i64 0] 48))
  from TriAt.new w _ _ _ _ _ _)
 go_enter Tryz.func28, Tryz.ntmps28
 go_upto_region 1 with fail
 obtain ⟨wk, hwk⟩ : ∃ W, W = (((w.alloc (.cells #[.slice a0 l.length c0, .slice a1 g.length c1, .slice a2 h.length c2, .slice a3 qs.length c3] 26)).alloc (.cells #[.int .i64 4, .string x1, .string x2, .string x3, .string x4, .slice wo us.length wc] 45)).alloc (.cells #[.int .i64 0, .slice none 0 0, .int .i64 0, .int .i64 0] 48)) := ⟨_, rfl⟩
 rw [← hwk] at HT ⊢
 clear hwk
 obtain ⟨ca, fa, za⟩ := HT.out.a
 obtain ⟨cb, fb, zb⟩ := HT.out.b
 go_wp2_with fail
 refine (sim_Only (.slice a0 l.length c0) (.slice a1 g.length c1) (.slice a2 h.length c2) (.slice a3 qs.length c3) l g h qs ⟨4, ⟨x1, x2⟩, ⟨x3, x4⟩, .slice wo us.length wc⟩ wk (HP.out.at_.below HT.out.low)).mono ?_
 rintro e w1 ⟨vq, rfl, hvq, hb1⟩
 obtain ⟨qa, qc, rfl⟩ := hvq.form
 have HT := Lib.hid (HT.out.later hb1)
 have HQ := Lib.hid hvq
 clear hvq hb1 ca fa za cb fb zb
 obtain ⟨ca, fa, za⟩ := HT.out.a
 go_upto_region 2 with fail
 obtain ⟨w2, hw2⟩ : ∃ W, W = puts w1 w.heap.size 0 [.slice a0 l.length c0, .slice a1 g.length c1, .slice a2 h.length c2, .slice qa 1 qc] := ⟨_, rfl⟩
 have hch : ((((w1.setCell ⟨w.heap.size, 0, none⟩ (.slice a0 l.length c0)).setCell ⟨w.heap.size, 1, none⟩ (.slice a1 g.length c1)).setCell ⟨w.heap.size, 2, none⟩ (.slice a2 h.length c2)).setCell ⟨w.heap.size, 3, none⟩ (.slice qa 1 qc)) = w2 := hw2.symm
 rw [hch]
 have HQ := Lib.hid (HQ.out.putsBlk [.slice a0 l.length c0, .slice a1 g.length c1, .slice a2 h.length c2, .slice qa 1 qc] 0 w1 _ HT.out.a (by simp) (by simp))
 have HT := Lib.hid (HT.out.putsA (.slice a0 l.length c0) (.slice a1 g.length c1) (.slice a2 h.length c2) (.slice qa 1 qc))
 rw [← hw2] at HQ HT
 clear hch hw2 ca fa za
 obtain ⟨ca, fa, za⟩ := HT.out.a
 obtain ⟨cb, fb, zb⟩ := HT.out.b
 go_wp2_with fail
 refine (sim_Right HP.out HT.out.low HQ.out).mono ?_
 rintro e w3 ⟨rfl, hb3⟩
 have HQ := Lib.hid (HQ.out.below hb3)
 have HT := Lib.hid (HT.out.later hb3)
 clear hb3 ca fa za cb fb zb
 obtain ⟨cb, fb, zb⟩ := HT.out.b
 go_wp2_with fail
 refine (sim_IsT HP.out HT.out.low).mono ?_
 rintro e w4 ⟨rfl, hb4⟩
 have HQ := Lib.hid (HQ.out.below hb4)
 have HT := Lib.hid (HT.out.later hb4)
 clear hb4 cb fb zb
 obtain ⟨ca, fa, za⟩ := HT.out.a
 obtain ⟨cb, fb, zb⟩ := HT.out.b
 go_wp2_with fail
 refine (sim_LowEval HP.out HT.out.low HQ.out).mono ?_
 rintro e w5 ⟨t, M, fs, st, rfl, ht, hb5⟩
 have hsm : SameM PS NS (minS l h) := HP.out.lowM
 have HQ := Lib.hid (HQ.out.below hb5)
 have HT := Lib.hid (HT.out.later hb5)
 have HM := Lib.hid ht
 have HS := Lib.hid hsm
 clear hb5 ca fa za cb fb zb ht hsm
 obtain ⟨ps, hps⟩ := least_ex (minS l h)
 have SAT := Lib.hid (sim_Sat HP.out HT.out.low HM.out HS.out hps)
 have HL := Lib.hid hps
 obtain ⟨ok, hok⟩ : ∃ b, b = satQ (membersP ps) ⟨4, ⟨x1, x2⟩, ⟨x3, x4⟩, .slice wo us.length wc⟩ us := ⟨_, rfl⟩
 rw [← hok] at SAT
 have HOK := Lib.hid hok
 clear hps hok
 obtain ⟨cb, fb, zb⟩ := HT.out.b
 go_wp2_with fail
 refine SAT.out.mono ?_
 rintro e w6 ⟨rfl, hb6⟩
 have HQ := Lib.hid (HQ.out.below hb6)
 have HT := Lib.hid (HT.out.later hb6)
 have HM := Lib.hid (HM.out.below hb6)
 clear hb6 cb fb zb SAT HS
 obtain ⟨F5, W0, g0, hm⟩ := HM.out.mod
 have ST := Lib.hid (model_Steps hm)
 clear hm
 go_wp2_with fail
 refine ST.out.mono ?_
 rintro e w7 ⟨rfl, rfl⟩
 clear ST
 obtain ⟨cc, fc, zc⟩ := HT.out.c
 go_upto_region 11 with fail
 have HQ := Lib.hid (HQ.out.setBlk (o := 2) (x := .int .i64 st) HT.out.c (by simp))
 have HT := Lib.hid (show TriAt w _ _ #[.int .i64 0, .slice none 0 0, .int .i64 st, .int .i64 0] _ from HT.out.setC (o := 2) (v := .int .i64 st) (by simp))
 clear cc fc zc
 obtain ⟨w8, hw8⟩ : ∃ W, W = w7.setCell ⟨w.heap.size + 1 + 1, 2, none⟩ (.int .i64 st) := ⟨_, rfl⟩
 rw [← hw8] at HQ HT ⊢
 clear hw8 HM
 obtain ⟨cb, fb, zb⟩ := HT.out.b
 go_wp2_with fail
 refine (sim_Univ (k := 4) (b := false) rfl w8).mono ?_
 rintro e w9 ⟨rfl, rfl⟩
 cases ok with
 | false =>
  go_wp2_with fail
  refine (sim_Univ (k := 4) (b := false) rfl w9).mono ?_
  rintro e w10 ⟨rfl, rfl⟩
  obtain ⟨cc, fc, zc⟩ := HT.out.c
  go_upto_region 17 with fail
  have HT := Lib.hid (show TriAt w _ _ #[.int .i64 4, .slice none 0 0, .int .i64 st, .int .i64 0] _ from HT.out.setC (o := 0) (v := .int .i64 4) (by simp))
  clear cc fc zc
  obtain ⟨wx, hwx⟩ : ∃ W, W = w10.setCell ⟨w.heap.size + 1 + 1, 0, none⟩ (.int .i64 4) := ⟨_, rfl⟩
  rw [← hwx] at HT ⊢
  clear hwx
  obtain ⟨cc, fc, zc⟩ := HT.out.c
  go_wp2
  obtain ⟨wy, hwy⟩ : ∃ W, W = puts wx (w.heap.size + 1 + 1) 0 [.int .i64 4, .slice none 0 0, .int .i64 st, .int .i64 0] := ⟨_, rfl⟩
  have hch : ((((wx.setCell ⟨w.heap.size + 1 + 1, 0, none⟩ (.int .i64 4)).setCell ⟨w.heap.size + 1 + 1, 1, none⟩ (.slice none 0 0)).setCell ⟨w.heap.size + 1 + 1, 2, none⟩ (.int .i64 st)).setCell ⟨w.heap.size + 1 + 1, 3, none⟩ (.int .i64 0)) = wy := hwy.symm
  rw [hch]
  have HT := Lib.hid (HT.out.putsC (.int .i64 4) (.slice none 0 0) (.int .i64 st) (.int .i64 0))
  rw [← hwy] at HT
  clear hch hwy cc fc zc
  obtain ⟨cc, fc, zc⟩ := HT.out.c
  refine bodyPost_ret (v := .tuple #[.agg #[.int .i64 4, .slice none 0 0, .int .i64 st, .int .i64 0], .int .i64 0]) (by simp [results, Tryz.results28, go_sem, cc]) rfl ⟨⟨none, 0, st, [], ps, ?_, HL.out, (Sl.nil _ _).a, ?_⟩, HT.out.low⟩
  ·show _ = Ending.returned (.tuple #[.agg #[.int .i64 (kindV (univB 4) (satQ (membersP ps) ⟨4, ⟨x1, x2⟩, ⟨x3, x4⟩, .slice wo us.length wc⟩ us)), .slice none 0 0, .int .i64 st, .int .i64 0], .int .i64 0])
   rw [← HOK.out]
   rfl
  ·show _ = if univB 4 = satQ (membersP ps) ⟨4, ⟨x1, x2⟩, ⟨x3, x4⟩, .slice wo us.length wc⟩ us then [] else _
   rw [← HOK.out]
   rfl
 | true =>
  go_wp2_with fail
  refine (sim_Univ (k := 4) (b := false) rfl w9).mono ?_
  rintro e w10 ⟨rfl, rfl⟩
  obtain ⟨ca, fa, za⟩ := HT.out.a
  go_wp2_with fail
  refine (sim_LowState HP.out HT.out.low HQ.out).mono ?_
  rintro e w11 ⟨vs, rfl, hvs, hb11⟩
  obtain ⟨sa, sc, rfl⟩ := hvs.form
  have HT := Lib.hid (HT.out.later hb11)
  have HV := Lib.hid hvs
  clear hvs hb11 ca fa za cb fb zb
  obtain ⟨cc, fc, zc⟩ := HT.out.c
  go_upto_region 17 with fail
  have HV := Lib.hid ((HV.out.setBlk (o := 0) (x := .int .i64 3) HT.out.c (by simp)).setBlk (o := 1) (x := .slice sa (minS l h).length sc) (HT.out.setC (o := 0) (v := .int .i64 3) (by simp)).c (by simp)).a
  have HT := Lib.hid (show TriAt w _ _ #[.int .i64 3, .slice sa (minS l h).length sc, .int .i64 st, .int .i64 0] _ from (HT.out.setC (o := 0) (v := .int .i64 3) (by simp)).setC (o := 1) (v := .slice sa (minS l h).length sc) (by simp))
  clear cc fc zc
  obtain ⟨wx, hwx⟩ : ∃ W, W = (w11.setCell ⟨w.heap.size + 1 + 1, 0, none⟩ (.int .i64 3)).setCell ⟨w.heap.size + 1 + 1, 1, none⟩ (.slice sa (minS l h).length sc) := ⟨_, rfl⟩
  rw [← hwx] at HV HT ⊢
  clear hwx
  obtain ⟨cc, fc, zc⟩ := HT.out.c
  go_wp2
  obtain ⟨wy, hwy⟩ : ∃ W, W = puts wx (w.heap.size + 1 + 1) 0 [.int .i64 3, .slice sa (minS l h).length sc, .int .i64 st, .int .i64 0] := ⟨_, rfl⟩
  have hch : ((((wx.setCell ⟨w.heap.size + 1 + 1, 0, none⟩ (.int .i64 3)).setCell ⟨w.heap.size + 1 + 1, 1, none⟩ (.slice sa (minS l h).length sc)).setCell ⟨w.heap.size + 1 + 1, 2, none⟩ (.int .i64 st)).setCell ⟨w.heap.size + 1 + 1, 3, none⟩ (.int .i64 0)) = wy := hwy.symm
  rw [hch]
  have HV := Lib.hid (HV.out.putsBlk [.int .i64 3, .slice sa (minS l h).length sc, .int .i64 st, .int .i64 0] 0 wx _ HT.out.c (by simp) (by simp))
  have HT := Lib.hid (HT.out.putsC (.int .i64 3) (.slice sa (minS l h).length sc) (.int .i64 st) (.int .i64 0))
  rw [← hwy] at HV HT
  clear hch hwy cc fc zc
  obtain ⟨cc, fc, zc⟩ := HT.out.c
  refine bodyPost_ret (v := .tuple #[.agg #[.int .i64 3, .slice sa (minS l h).length sc, .int .i64 st, .int .i64 0], .int .i64 0]) (by simp [results, Tryz.results28, go_sem, cc]) rfl ⟨⟨sa, sc, st, minS l h, ps, ?_, HL.out, HV.out, ?_⟩, HT.out.low⟩
  ·show _ = Ending.returned (.tuple #[.agg #[.int .i64 (kindV (univB 4) (satQ (membersP ps) ⟨4, ⟨x1, x2⟩, ⟨x3, x4⟩, .slice wo us.length wc⟩ us)), .slice sa (minS l h).length sc, .int .i64 st, .int .i64 0], .int .i64 0])
   rw [← HOK.out]
   rfl
  ·show _ = if univB 4 = satQ (membersP ps) ⟨4, ⟨x1, x2⟩, ⟨x3, x4⟩, .slice wo us.length wc⟩ us then [] else _
   rw [← HOK.out]
   rfl
end Go.Proofs.YtcmdhfccdkjenaaGreatDoor
