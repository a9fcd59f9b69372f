/- crupperref12.Fresh, Prins, Roles, Maximal (printed by gen_ref12.py). The document's example of layer 11. The statement LowTells: the walk of the law. crupperlaw12.small; how much a policy's states can tell. The statement HighTells: the walk of the law (printed by gen_law12t.py). Roles and statements among a law's arguments: opened to data, and read again in a later world. Rows of statements among a law's arguments: opened. Policies among a law's arguments: opened. What the proofs of tied cards over math/bits.deBruijn64tab share: the world of the witness, the table's cells, roles and queries opened. -/
import Derived.Test.YtnnieegddbcfcaaGreatDoorPart16
import Derived.Test.YtnnieegddbcfcaaGreatDoorPart17
import Derived.Test.YtnnieegddbcfcaaGreatDoorPart13
import Derived.Test.YtnnieegddbcfcaaGreatDoorPart6
import Derived.Test.YtnnieegddbcfcaaGreatDoorPart15
import Derived.Test.YtnnieegddbcfcaaGreatDoorPart14
import Derived.Test.YtnnieegddbcfcaaGreatDoorPart5
import Derived.ProofKit
import Derived.OpenShut
import Derived.ChangeMaps5
import Derived.Deep.Strs
import Derived.Test.YtnnieegddbcfcaaGreatDoorPart3
import Derived.Deep.Slices
import Derived.Test.YtnnieegddbcfcaaGreatDoorCards
import Derived.Test.YtnnieegddbcfcaaGreatDoorTie
import Derived.Test.YtnnieegddbcfcaaGreatDoorPart9
import Derived.Lay
import Derived.Deep.DeepHandedRow
import Derived.Lib.LaidTab
import Derived.Shelf.Strings.Shaped
import Derived.HandedShaped
namespace Go.Proofs.YtnnieegddbcfcaaGreatDoor
open Go.RowKit Go.Shelf

theorem filter_mapSnoc {α β : Type} {B : List α} {f : α → β} {p : β → Bool} {k : Nat} (hk : k < B.length) : ((B.take (k + 1)).map f).filter p = ((B.take k).map f).filter p ++ (if p (f B[k]) = true then [f B[k]] else []) := by
  rw [map_snocT hk, List.filter_append, List.filter_cons, List.filter_nil]
section
variable {w : World} {v0 v1 v2 v3 : Value} {l : List St} {g h : List Rl} {qs : List Qv} {F : Qv → List ByteArray} {PS NS : List ByteArray}
theorem ref5_PrinsX (P : PolX w v0 v1 v2 v3 l g h qs F PS NS) : Calls Tryz.prog 34 #[pv v0 v1 v2 v3] w fun e w' => ∃ v, e = .returned v ∧ w'.ownsRow w.heap.size 9 1 v PS.length (strs PS) ∧ Below w.heap.size w w' := by
  refine (ref5_PrinsO v0 v1 v2 v3 l g h qs w P.at_ P.hl P.hg P.hh P.hq F P.hF).mono ?_
  rintro e w' ⟨v, rfl, ⟨⟨h1, _⟩, _⟩, hb⟩
  rw [P.eP] at h1
  exact ⟨v, rfl, h1, hb⟩
theorem ref5_NamesX (P : PolX w v0 v1 v2 v3 l g h qs F PS NS) : Calls Tryz.prog 47 #[pv v0 v1 v2 v3] w fun e w' => ∃ v, e = .returned v ∧ w'.ownsRow w.heap.size 9 1 v NS.length (strs NS) ∧ Below w.heap.size w w' := by
  refine (ref5_NamesO v0 v1 v2 v3 l g h qs w P.at_ P.hl P.hg P.hh P.hq).mono ?_
  rintro e w' ⟨v, rfl, ⟨⟨h1, _⟩, _⟩, hb⟩
  rw [P.eN] at h1
  exact ⟨v, rfl, h1, hb⟩
set_option maxRecDepth 100000 in
set_option maxHeartbeats 2000000 in
theorem ref12_Fresh (P : PolX w v0 v1 v2 v3 l g h qs F PS NS) : Calls Tryz.prog 41 #[pv v0 v1 v2 v3] w fun e w' => e = .returned (.string (freshB PS)) ∧ Below w.heap.size w w' := by
  have PP := Lib.hid (fun W (hb : Below w.heap.size w W) => ref5_PrinsX (P.below hb))
  have hps := P.hps
  obtain ⟨a0, c0, rfl⟩ := P.at_.rs.form
  obtain ⟨a1, c1, rfl⟩ := P.at_.rg.form
  obtain ⟨a2, c2, rfl⟩ := P.at_.rh.form
  obtain ⟨a3, c3, rfl⟩ := P.at_.rq.form
  have HT := Lib.hid (show OneAt w #[.slice a0 l.length c0, .slice a1 g.length c1, .slice a2 h.length c2, .slice a3 qs.length c3] (w.alloc (.cells #[.slice a0 l.length c0, .slice a1 g.length c1, .slice a2 h.length c2, .slice a3 qs.length c3] 26)) from ⟨Blk.new w _ _, (Below.refl _ _).alloc (Nat.le_refl _) _⟩)
  clear P
  go_enter Tryz.func41, Tryz.ntmps41
  go_wp2_with fail
  refine (PP.out _ HT.out.low).mono ?_
  rintro e w1 ⟨vp, rfl, ho, hb1⟩
  obtain ⟨ao, co, rfl⟩ := own_form ho
  have HT := Lib.hid (HT.out.later hb1)
  have HS := Lib.hid (Sl.of_own ho)
  clear ho hb1 PP
  go_wp2_with fail
  refine (ref1_Fresh1 (.slice ao PS.length co) PS _ HS.out.a (by omega)).mono ?_
  rintro e w3 ⟨g3, c3', rfl, hs, hb3⟩
  have HT := Lib.hid (HT.out.later hb3)
  obtain ⟨b4, o4, c4, he, hc4, hm4, hb4, hx4⟩ := hs.pos (by omega)
  simp only [Value.slice.injEq, Option.some.injEq, Addr.mk.injEq, true_and, and_true] at he
  obtain ⟨⟨rfl, rfl⟩, rfl⟩ := he
  have p0 := hx4 0 _ rfl
  simp only [Nat.add_zero] at p0
  clear hs hb3 hx4
  go_wp2
  go_ret
  exact ⟨rfl, HT.out.low⟩
set_option maxRecDepth 100000 in
set_option maxHeartbeats 4000000 in
theorem ref12_Prins (P : PolX w v0 v1 v2 v3 l g h qs F PS NS) : Calls Tryz.prog 46 #[pv v0 v1 v2 v3] w fun e w' => ∃ v, e = .returned v ∧ w'.ownsRow w.heap.size 9 1 v (putX PS).length (strs (putX PS)) ∧ Below w.heap.size w w' := by
  have PP := Lib.hid (fun W (hb : Below w.heap.size w W) => ref5_PrinsX (P.below hb))
  have FR := Lib.hid (fun W (hb : Below w.heap.size w W) => ref12_Fresh (P.below hb))
  have PE := Lib.hid (show insSB PS (freshB PS) = putX PS from rfl)
  have hps := P.hps
  obtain ⟨a0, c0, rfl⟩ := P.at_.rs.form
  obtain ⟨a1, c1, rfl⟩ := P.at_.rg.form
  obtain ⟨a2, c2, rfl⟩ := P.at_.rh.form
  obtain ⟨a3, c3, rfl⟩ := P.at_.rq.form
  have HT := Lib.hid (show OneAt w #[.slice a0 l.length c0, .slice a1 g.length c1, .slice a2 h.length c2, .slice a3 qs.length c3] (w.alloc (.cells #[.slice a0 l.length c0, .slice a1 g.length c1, .slice a2 h.length c2, .slice a3 qs.length c3] 26)) from ⟨Blk.new w _ _, (Below.refl _ _).alloc (Nat.le_refl _) _⟩)
  clear P
  generalize putX PS = PX at *
  generalize freshB PS = x at *
  go_enter Tryz.func46, Tryz.ntmps46
  go_wp2_with fail
  refine wp_region_held_drew (S := (fun W => ∀ o, W.cell? ⟨w.heap.size, o, none⟩ = (#[.slice a0 l.length c0, .slice a1 g.length c1, .slice a2 h.length c2, .slice a3 qs.length c3] : Array Value)[o]?)) (by kernel_rfl) HT.out.drew.a.1 (fun hHeld => ?_)
  have HT := HT.out.drew
  obtain ⟨wk, hwk⟩ : ∃ W, W = (w.alloc (.cells #[.slice a0 l.length c0, .slice a1 g.length c1, .slice a2 h.length c2, .slice a3 qs.length c3] 26)).drew := ⟨_, rfl⟩
  rw [← hwk] at HT hHeld ⊢
  clear hwk
  (refine held_yes (v := ?_) 0 rfl (by kernel_rfl) (by kernel_rfl) (by kernel_rfl) (fun _ _ _ h => h) (by rfl) (by assumption) ?_ ?_; rotate_left; (focus ((intro w hSw); (try dsimp only at hSw); go_simp; (try with_reducible rfl))); (try simp only [Act.put, List.setIfInBounds_toArray, List.set_cons_zero, List.set_cons_succ])); (refine held_yes (v := ?_) 2 rfl (by kernel_rfl) (by kernel_rfl) (by kernel_rfl) (fun _ _ _ h => h) (by rfl) (by assumption) ?_ ?_; rotate_left; (focus ((intro w hSw); (try dsimp only at hSw); go_simp; (try with_reducible rfl))); (try simp only [Act.put, List.setIfInBounds_toArray, List.set_cons_zero, List.set_cons_succ]))
  (refine held_call 1 rfl (by kernel_rfl) (fun K hK => ?_); go_simp)
  go_at_call 34; refine (PP.out _ HT.low).mono ?_; rintro e w1 ⟨vp, rfl, ho, hb⟩; have hbz := HT.low.size; have HT1 := HT.later hb; have ho := own_mono ho hbz; obtain ⟨ao, co, hv⟩ := own_form ho; subst hv; clear PP hb hbz
  (refine hK.out _ _ (HT1.a.1) (fun hHeld => ?_); clear hK K; (try simp only [Act.put, List.setIfInBounds_toArray, List.set_cons_zero, List.set_cons_succ]))
  (refine held_call 3 rfl (by kernel_rfl) (fun K hK => ?_); go_simp)
  go_at_call 41; refine (FR.out _ HT1.low).mono ?_; rintro e w2 ⟨rfl, hb2⟩; have HT2 := HT1.later hb2; have ho2 := Lib.hid (own_below ho hb2); clear FR ho hb2
  (refine hK.out _ _ (HT2.a.1) (fun hHeld => ?_); clear hK K; (try simp only [Act.put, List.setIfInBounds_toArray, List.set_cons_zero, List.set_cons_succ]))
  (refine held_call 4 rfl (by kernel_rfl) (fun K hK => ?_); go_simp)
  go_at_call 87; refine (ref1_PutO (.slice ao PS.length co) PS x _ (Sl.of_own ho2.out).a (by omega)).mono ?_; rintro e w3 ⟨v3', rfl, hr, hb3⟩; rw [PE.out] at hr; have HT3 := HT2.later hb3; have HR : Hid (w3.ownsRow w.heap.size 9 1 v3' PX.length (strs PX)) := Lib.hid (by
    rcases hr with ⟨rfl, e1⟩ | hr
    · rw [e1]; exact own_below ho2.out hb3
    · exact own_mono hr HT2.low.size); obtain ⟨a3', c3', hv⟩ := own_form HR.out; subst hv; clear hr hb3
  (refine hK.out _ _ (HT3.a.1) (fun hHeld => ?_); clear hK K; (try simp only [Act.put, List.setIfInBounds_toArray, List.set_cons_zero, List.set_cons_succ]))
  (refine held_yes (v := ?_) 5 rfl (by kernel_rfl) (by kernel_rfl) (by kernel_rfl) (fun _ _ _ h => h) (by rfl) (by assumption) ?_ ?_; rotate_left; (focus ((intro w hSw); (try dsimp only at hSw); go_simp; (try with_reducible rfl))); (try simp only [Act.put, List.setIfInBounds_toArray, List.set_cons_zero, List.set_cons_succ]))
  refine wpAnyH_done (by kernel_rfl) ?_ _
  have HT := Lib.hid HT3
  clear HT3
  go_wp2
  go_ret
  exact ⟨_, rfl, HR.out, HT.out.low⟩
set_option maxRecDepth 100000 in
set_option maxHeartbeats 8000000 in
theorem ref12_Roles (P : PolX w v0 v1 v2 v3 l g h qs F PS NS) (h6 : PS.length ≤ 6) (h4 : NS.length ≤ 4) : Calls Tryz.prog 44 #[pv v0 v1 v2 v3] w fun e w' => ∃ v, e = .returned v ∧ w'.ownsRow w.heap.size 28 2 v (rolesX PS NS g).length ((rolesX PS NS g).flatMap Rl.cells) ∧ Below w.heap.size w w' := by
  have PN := Lib.hid (fun W (hb : Below w.heap.size w W) => ref5_NamesX (P.below hb))
  have PR := Lib.hid (fun W (hb : Below w.heap.size w W) => ref12_Prins (P.below hb))
  have hpx := putX_len PS
  have RH := Lib.hid (fun x W (hb : Below w.heap.size w W) => ref5_Has v1 g x W (P.at_.rg.below hb))
  have RES := Lib.hid (show insAllR [] ((allR (putX PS) NS).filter (fun r => !hasR g r)) = rolesX PS NS g from rfl)
  obtain ⟨a0, c0, rfl⟩ := P.at_.rs.form
  obtain ⟨a1, c1, rfl⟩ := P.at_.rg.form
  obtain ⟨a2, c2, rfl⟩ := P.at_.rh.form
  obtain ⟨a3, c3, rfl⟩ := P.at_.rq.form
  have HT := Lib.hid (show OneAt w #[.slice a0 l.length c0, .slice a1 g.length c1, .slice a2 h.length c2, .slice a3 qs.length c3] (w.alloc (.cells #[.slice a0 l.length c0, .slice a1 g.length c1, .slice a2 h.length c2, .slice a3 qs.length c3] 26)) from ⟨Blk.new w _ _, (Below.refl _ _).alloc (Nat.le_refl _) _⟩)
  clear P
  generalize putX PS = PX at *
  generalize rolesX PS NS g = RX at *
  have hp7 : PX.length ≤ 7 := by omega
  go_enter Tryz.func44, Tryz.ntmps44
  go_wp2_with fail
  refine (PR.out _ HT.out.low).mono ?_
  rintro e w1 ⟨vp, rfl, ho, hb1⟩
  obtain ⟨ao, co, rfl⟩ := own_form ho
  have HT := Lib.hid (HT.out.later hb1)
  have HP := Lib.hid ho
  clear ho hb1 PR
  go_wp2_with fail
  go_loopw [3, 12] (fun vo i wr => ∃ (k : Nat) (rs : List Rl), k ≤ PX.length ∧ i = .int .i64 k ∧ Hid (rs = (allR (PX.take k) NS).filter (fun r => !hasR g r)) ∧ Hid (OneAt w #[.slice a0 l.length c0, .slice a1 g.length c1, .slice a2 h.length c2, .slice a3 qs.length c3] wr) ∧ Hid (wr.ownsRow (w.heap.size + 1) 28 2 vo rs.length (rs.flatMap Rl.cells)) ∧ Hid (∃ B, wr.ownsRow B 9 1 (.slice ao PX.length co) PX.length (strs PX))) (fun _ i _ => PX.length - (intOf i).toNat)
  case atStart => exact ⟨0, [], by omega, rfl, Lib.hid rfl, HT, Lib.hid (World.ownsRow_nil _ _ _ _), Lib.hid ⟨_, HP.out⟩⟩
  case round =>
    clear HT HP
    obtain ⟨k, rs, hk, rfl, HE, HT, HO, HP⟩ := hrel
    obtain ⟨BP, hop⟩ := HP.out
    have HP := Lib.hid hop
    obtain ⟨oo, oc, rfl⟩ := own_form HO.out
    obtain ⟨cs, fs, zs⟩ := HT.out.a
    have hrl : rs.length ≤ 7 * 4 := by
      rw [HE.out]
      refine Nat.le_trans (List.length_filter_le _ _) ?_
      rw [allR_len]; exact Nat.mul_le_mul (by have := List.length_take_le k PX; omega) h4
    by_cases hlt : k < PX.length
    · obtain ⟨b1, o1, rfl, p0, hc1, hm1, hb1⟩ := own_text hop hlt rfl
      have HF := Lib.hid (show (allR (PX.take (k + 1)) NS).filter (fun r => !hasR g r) = (allR (PX.take k) NS).filter (fun r => !hasR g r) ++ (NS.map (fun n => (⟨PX[k], n⟩ : Rl))).filter (fun r => !hasR g r) by rw [allR_snoc hlt, List.filter_append])
      clear hop
      generalize PX[k] = x at *
      go_wp2_with fail
      refine (PN.out _ HT.out.low).mono ?_
      rintro e w2 ⟨vn, rfl, hon, hb2⟩
      obtain ⟨an, cn, rfl⟩ := own_form hon
      have HT2 := Lib.hid (HT.out.later hb2)
      have HO2 := Lib.hid (own_below HO.out hb2)
      have HP2 := Lib.hid (own_below HP.out hb2)
      have HN2 := Lib.hid hon
      clear hon hb2 cs fs zs p0 HT HO HP
      go_wp2_with fail
      go_loopw [3, 19] (fun vo i wr2 => ∃ (j : Nat) (ss : List Rl), j ≤ NS.length ∧ i = .int .i64 j ∧ Hid (ss = rs ++ ((NS.take j).map (fun n => (⟨x, n⟩ : Rl))).filter (fun r => !hasR g r)) ∧ Hid (OneAt w #[.slice a0 l.length c0, .slice a1 g.length c1, .slice a2 h.length c2, .slice a3 qs.length c3] wr2) ∧ Hid (wr2.ownsRow (w.heap.size + 1) 28 2 vo ss.length (ss.flatMap Rl.cells)) ∧ Hid (wr2.ownsRow BP 9 1 (.slice (some ⟨b1, o1, none⟩) PX.length co) PX.length (strs PX)) ∧ Hid (wr2.ownsRow wr.heap.size 9 1 (.slice an NS.length cn) NS.length (strs NS))) (fun _ i _ => NS.length - (intOf i).toNat)
      case atStart => exact ⟨0, rs, by omega, rfl, Lib.hid (by simp), HT2, HO2, HP2, HN2⟩
      case round =>
        clear HT2 HO2 HP2 HN2
        obtain ⟨j, ss, hj, rfl, HE2, HT, HO, HP, HN⟩ := hrel
        obtain ⟨oo, oc, rfl⟩ := own_form HO.out
        obtain ⟨cs, fs, zs⟩ := HT.out.a
        have hsl : ss.length ≤ rs.length + 4 := by
          rw [HE2.out, List.length_append]
          have h1 := List.length_filter_le (fun r => !hasR g r) ((NS.take j).map (fun n => (⟨x, n⟩ : Rl)))
          rw [List.length_map] at h1
          have := List.length_take_le j NS; omega
        by_cases hlt2 : j < NS.length
        · obtain ⟨b2, o2, rfl, p0, hc2, hm2, hb2⟩ := own_text HN.out hlt2 rfl
          have HF2 := Lib.hid (filter_mapSnoc (f := fun n => (⟨x, n⟩ : Rl)) (p := fun r => !hasR g r) hlt2)
          generalize NS[j] = y at *
          have RHx := Lib.hid (RH.out ⟨x, y⟩)
          generalize hasR g ⟨x, y⟩ = t at *
          have HT1 := Lib.hid (HT.out.alloc (.cells #[.string x, .string y] 28))
          have HO1 := Lib.hid (HO.out.alloc (.cells #[.string x, .string y] 28))
          have HP1 := Lib.hid (HP.out.alloc (.cells #[.string x, .string y] 28))
          have HN1 := Lib.hid (HN.out.alloc (.cells #[.string x, .string y] 28))
          have HX1 := Lib.hid (Blk.new wr #[.string x, .string y] 28)
          go_wp2_with fail
          refine (RHx.out _ HT1.out.low).mono ?_
          rintro e w4 ⟨rfl, hb4⟩
          have HT4 := Lib.hid (HT1.out.later hb4)
          have HO4 := Lib.hid (own_below HO1.out hb4)
          have HP4 := Lib.hid (own_below HP1.out hb4)
          have HN4 := Lib.hid (own_below HN1.out hb4)
          have HX4 := Lib.hid (HX1.out.below hb4)
          clear hb4 HT1 HO1 HP1 HN1 HX1 HT HO HP HN cs fs zs p0 RHx
          obtain ⟨cs, fs, zs⟩ := HT4.out.a
          obtain ⟨cx, fx, zx⟩ := HX4.out
          cases t with
          | true =>
            go_wp2_with fail
            exact ⟨⟨j + 1, ss, by omega, by go_num, Lib.hid (by rw [HF2.out, HE2.out]; simp), HT4, HO4, HP4, HN4⟩, by simp [intOf]; omega⟩
          | false =>
            go_wp2_with (at_builtin; refine halt_ ?_)
            unfold Halt_
            refine app_own Tryz.underlying23 rl_info' rfl (by decide) (by decide) rfl _ _ rfl (w.heap.size + 1) rfl (HO4.out.alloc _) [.string x, .string y] rfl (heap_new1 _ _) rfl (rlc_one ⟨x, y⟩) ?_ ?_ ?_
            · omega
            · have := HT4.out.a.2.2; simp; omega
            intro a' cap' w5 hown' hgrow
            obtain ⟨q1, q2⟩ := push_at Rl.cells (x := ⟨x, y⟩) HT4.out HO4.out hown' hgrow
            have HP5 := Lib.hid (own_far (HP4.out.alloc _) (HO4.out.alloc _) hgrow (by decide))
            have HN5 := Lib.hid (own_far (HN4.out.alloc _) (HO4.out.alloc _) hgrow (by decide))
            have HO5 := Lib.hid q1
            have HT5 := Lib.hid q2
            clear hown' hgrow q1 q2 cs fs zs cx fx zx
            go_wp2_with fail
            exact ⟨⟨j + 1, ss ++ [⟨x, y⟩], by omega, by go_num, Lib.hid (by rw [HF2.out, HE2.out]; simp), HT5, HO5, HP5, HN5⟩, by simp [intOf]; omega⟩
        · have HES := Lib.hid (show ss = (allR (PX.take (k + 1)) NS).filter (fun r => !hasR g r) by rw [HF.out, HE2.out, HE.out, List.take_of_length_le (show NS.length ≤ j by omega)])
          go_wp2_with fail
          exact ⟨⟨k + 1, ss, by omega, by go_num, HES, HT, HO, Lib.hid ⟨_, HP.out⟩⟩, by simp [intOf]; omega⟩
    · have HES := Lib.hid (show rs = (allR PX NS).filter (fun r => !hasR g r) by rw [HE.out, List.take_of_length_le (show PX.length ≤ k by omega)])
      have HS := Lib.hid (Sl.of_own HO.out)
      go_wp2_with fail
      refine (ref5_SortO (.slice oo rs.length oc) rs wr HS.out.a (by omega)).mono ?_
      rintro e w4 ⟨v4, rfl, ho4, hb4⟩
      have HT4 := Lib.hid (HT.out.later hb4)
      rw [HES.out, RES.out] at ho4
      have HR := Lib.hid (own_mono ho4 HT.out.low.size)
      obtain ⟨a4, c4', rfl⟩ := own_form HR.out
      clear HT HO HP HS ho4 hb4 cs fs zs
      go_wp2
      go_ret
      exact ⟨_, rfl, HR.out, HT4.out.low⟩
set_option maxRecDepth 100000 in
set_option maxHeartbeats 8000000 in
theorem ref12_Maximal (P : PolX w v0 v1 v2 v3 l g h qs F PS NS) (h6 : PS.length ≤ 6) (h4 : NS.length ≤ 4) : Calls Tryz.prog 37 #[pv v0 v1 v2 v3] w fun e w' => ∃ v, e = .returned v ∧ Sl w' 9 v (maxS l g PS NS).length ((maxS l g PS NS).flatMap St.cells) ∧ Below w.heap.size w w' := by
  have RO := Lib.hid (fun W (hb : Below w.heap.size w W) => ref12_Roles (P.below hb) h6 h4)
  have PR := Lib.hid (fun W (hb : Below w.heap.size w W) => ref12_Prins (P.below hb))
  have hpx := putX_len PS
  have HL := Lib.hid P.at_.rs
  have hl := P.hl
  have hrx : (rolesX PS NS g).length ≤ 7 * 4 := Nat.le_trans (rolesX_len PS NS g) (Nat.mul_le_mul (by omega) h4)
  have RES := Lib.hid (show insAll [] (l ++ memsX (rolesX PS NS g) (putX PS)) = maxS l g PS NS from rfl)
  obtain ⟨a0, c0, rfl⟩ := P.at_.rs.form
  obtain ⟨a1, c1, rfl⟩ := P.at_.rg.form
  obtain ⟨a2, c2, rfl⟩ := P.at_.rh.form
  obtain ⟨a3, c3, rfl⟩ := P.at_.rq.form
  have HT := Lib.hid (show OneAt w #[.slice a0 l.length c0, .slice a1 g.length c1, .slice a2 h.length c2, .slice a3 qs.length c3] (w.alloc (.cells #[.slice a0 l.length c0, .slice a1 g.length c1, .slice a2 h.length c2, .slice a3 qs.length c3] 26)) from ⟨Blk.new w _ _, (Below.refl _ _).alloc (Nat.le_refl _) _⟩)
  clear P
  generalize putX PS = PX at *
  generalize rolesX PS NS g = RX at *
  have hp7 : PX.length ≤ 7 := by omega
  generalize maxS l g PS NS = ms at *
  obtain ⟨wA, hwA⟩ : ∃ W, W = w.alloc (.cells #[.slice a0 l.length c0, .slice a1 g.length c1, .slice a2 h.length c2, .slice a3 qs.length c3] 26) := ⟨_, rfl⟩
  have hwz : wA.heap.size = w.heap.size + 1 := by rw [hwA]; simp
  have HLA := Lib.hid (HL.out.below HT.out.low)
  rw [← hwA] at HT HLA
  go_enter Tryz.func37, Tryz.ntmps37
  go_wp2_with (at_builtin; refine halt_ ?_)
  unfold Halt_
  have own0 := (World.ownsRow_made (e := 35) (size := 9) wA #[] 0 (Nat.le_refl _) (Nat.zero_le _) (by simp))
  have HT1 := Lib.hid (HT.out.alloc (.cells #[] 35))
  have HL1 := Lib.hid (HLA.out.below ((Below.refl _ wA).alloc (Nat.le_refl _) (.cells #[] 35)))
  rw [hwz] at own0
  subst hwA
  refine app_row Tryz.underlying22 st_info rfl (by decide) (by decide) rfl _ _ rfl (w.heap.size + 1) rfl own0 rfl HL1.out (sts_one _) (by omega) (by simp) ?_
  intro x1 y1 w1 hown1 hg1
  have HT2 := Lib.hid (show OneAt w #[.slice a0 l.length c0, .slice a1 g.length c1, .slice a2 h.length c2, .slice a3 qs.length c3] w1 from ⟨HT1.out.a.grown hg1 (own_gt_ne own0 (Nat.lt_succ_self _)), below_own HT1.out.low own0 hg1 HT1.out.low.size (Nat.le_succ _)⟩)
  have HO1 := Lib.hid (show w1.ownsRow (w.heap.size + 1) 35 9 (.slice x1 l.length y1) l.length (l.flatMap St.cells) by simpa using hown1)
  clear hown1 hg1 own0 HT1 HL1 HLA HT
  obtain ⟨cs, fs, zs⟩ := HT2.out.a
  go_wp2_with fail
  refine (RO.out _ HT2.out.low).mono ?_
  rintro e w2 ⟨vr, rfl, hor, hb2⟩
  obtain ⟨ar, cr, rfl⟩ := own_form hor
  have HT := Lib.hid (HT2.out.later hb2)
  have HO := Lib.hid (own_below HO1.out hb2)
  have HR := Lib.hid hor
  clear hor hb2 RO cs fs zs HT2 HO1
  go_wp2_with fail
  go_loopw [3, 15] (fun vo i wr => ∃ (k : Nat) (rs : List St), k ≤ RX.length ∧ i = .int .i64 k ∧ Hid (rs = l ++ memsX (RX.take k) PX) ∧ Hid (OneAt w #[.slice a0 l.length c0, .slice a1 g.length c1, .slice a2 h.length c2, .slice a3 qs.length c3] wr) ∧ Hid (wr.ownsRow (w.heap.size + 1) 35 9 vo rs.length (rs.flatMap St.cells)) ∧ Hid (wr.ownsRow w1.heap.size 28 2 (.slice ar RX.length cr) RX.length (RX.flatMap Rl.cells))) (fun _ i _ => RX.length - (intOf i).toNat)
  case atStart => exact ⟨0, l, by omega, rfl, Lib.hid (by simp [memsX]), HT, HO, HR⟩
  case round =>
    clear HT HO HR
    obtain ⟨k, rs, hk, rfl, HE, HT, HO, HR⟩ := hrel
    obtain ⟨oo, oc, rfl⟩ := own_form HO.out
    have hrl : rs.length ≤ 100 + 28 * 7 := by rw [HE.out, List.length_append, memsX_len]; exact Nat.add_le_add hl (Nat.mul_le_mul (by have := List.length_take_le k RX; omega) hp7)
    by_cases hlt : k < RX.length
    · obtain ⟨b1, o1, e1, he1, hc1, hm1', hb1, hx1⟩ := (Sl.of_own HR.out).pos (by omega)
      simp only [Value.slice.injEq, true_and] at he1
      obtain ⟨rfl, rfl⟩ := he1
      obtain ⟨p0, p1⟩ := rl_cell hx1 k hlt
      have HF := Lib.hid (memsX_snoc (A := PX) hlt)
      clear hx1
      generalize RX[k] = x at *
      obtain ⟨x1, x2⟩ := x
      have HT2 := Lib.hid (HT.out.alloc (.cells #[.string x1, .string x2] 28))
      have HO2 := Lib.hid (HO.out.alloc (.cells #[.string x1, .string x2] 28))
      have HR2 := Lib.hid (HR.out.alloc (.cells #[.string x1, .string x2] 28))
      have HX2 := Lib.hid (show CAt (wr.alloc (.cells #[.string x1, .string x2] 28)) wr.heap.size #[.string x1, .string x2] 28 from heap_new1 _ _)
      obtain ⟨cs, fs, zs⟩ := HT2.out.a
      have hwr : w.heap.size < wr.heap.size := HT.out.a.2.2
      go_wp2_with fail
      refine (PR.out _ HT2.out.low).mono ?_
      rintro e w4 ⟨vp, rfl, hop, hb4⟩
      obtain ⟨ap, cp, rfl⟩ := own_form hop
      have HT4 := Lib.hid (HT2.out.later hb4)
      have HO4 := Lib.hid (own_below HO2.out hb4)
      have HR4 := Lib.hid (own_below HR2.out hb4)
      have HX4 := Lib.hid (HX2.out.below hb4)
      have HP4 := Lib.hid (own_mono hop (Nat.zero_le _))
      clear hop hb4 cs fs zs p0 p1 HT HO HR HT2 HO2 HR2 HX2
      obtain ⟨gx, hgx⟩ : ∃ g, g = wr.heap.size := ⟨_, rfl⟩
      rw [← hgx] at HX4 ⊢
      clear hgx
      go_wp2_with fail
      go_loopw [3, 22] (fun vo i wr2 => ∃ (j : Nat) (ss : List St), j ≤ PX.length ∧ i = .int .i64 j ∧ Hid (ss = rs ++ (PX.take j).map (memS ⟨x1, x2⟩)) ∧ Hid (OneAt w #[.slice a0 l.length c0, .slice a1 g.length c1, .slice a2 h.length c2, .slice a3 qs.length c3] wr2) ∧ Hid (wr2.ownsRow (w.heap.size + 1) 35 9 vo ss.length (ss.flatMap St.cells)) ∧ Hid (wr2.ownsRow w1.heap.size 28 2 (.slice (some ⟨b1, o1, none⟩) RX.length cr) RX.length (RX.flatMap Rl.cells)) ∧ Hid (wr2.ownsRow 0 9 1 (.slice ap PX.length cp) PX.length (strs PX)) ∧ Hid (CAt wr2 gx #[.string x1, .string x2] 28)) (fun _ i _ => PX.length - (intOf i).toNat)
      case atStart => exact ⟨0, rs, by omega, rfl, Lib.hid (by simp), HT4, HO4, HR4, HP4, HX4⟩
      case round =>
        clear HT4 HO4 HR4 HP4 HX4
        obtain ⟨j, ss, hj, rfl, HE2, HT, HO, HR, HP, HX⟩ := hrel
        obtain ⟨oo, oc, rfl⟩ := own_form HO.out
        obtain ⟨cs, fs, zs⟩ := HX.out.blk
        have hsl : ss.length ≤ rs.length + 7 := by rw [HE2.out, List.length_append, List.length_map]; have := List.length_take_le j PX; omega
        by_cases hlt2 : j < PX.length
        · obtain ⟨b2, o2, rfl, q0, hc2, hm2, hb2⟩ := own_text HP.out hlt2 rfl
          have HF2 := Lib.hid (map_snocT (f := memS ⟨x1, x2⟩) hlt2)
          generalize PX[j] = y at *
          go_wp2_with (at_builtin; refine halt_ ?_)
          unfold Halt_
          refine app_own Tryz.underlying22 st_info rfl (by decide) (by decide) rfl _ _ rfl (w.heap.size + 1) rfl (HO.out.alloc _) [.int .i64 1, .string x1, .string x2, .string y, .string emp, .string emp, .string emp, .string emp, .string emp] rfl (heap_new1 _ _) rfl (st1s _ _ _ _ _ _ _ _ _) ?_ ?_ ?_
          · omega
          · have := HT.out.a.2.2; simp; omega
          intro a' cap' w5 hown' hgrow
          obtain ⟨q1, q2⟩ := push_at St.cells (x := memS ⟨x1, x2⟩ y) HT.out HO.out hown' hgrow
          have HX5 := Lib.hid ((HX.out.alloc _).grown (HO.out.alloc _) hgrow (by decide))
          have HP5 := Lib.hid (own_far (HP.out.alloc _) (HO.out.alloc _) hgrow (by decide))
          have HR5 := Lib.hid (own_far (HR.out.alloc _) (HO.out.alloc _) hgrow (by decide))
          have HO5 := Lib.hid q1
          have HT5 := Lib.hid q2
          clear hown' hgrow q1 q2 cs fs zs q0
          go_wp2_with fail
          exact ⟨⟨j + 1, ss ++ [memS ⟨x1, x2⟩ y], by omega, by go_num, Lib.hid (by rw [HF2.out, HE2.out]; simp), HT5, HO5, HR5, HP5, HX5⟩, by simp [intOf]; omega⟩
        · have HES := Lib.hid (show ss = l ++ memsX (RX.take (k + 1)) PX by rw [HF.out, HE2.out, HE.out, List.take_of_length_le (show PX.length ≤ j by omega), List.append_assoc])
          go_wp2_with fail
          exact ⟨⟨k + 1, ss, by omega, by go_num, HES, HT, HO, HR⟩, by simp [intOf]; omega⟩
    · have HES := Lib.hid (show rs = l ++ memsX RX PX by rw [HE.out, List.take_of_length_le (show RX.length ≤ k by omega)])
      have HS := Lib.hid (Sl.of_own HO.out)
      go_wp2_with fail
      refine (ref3_Sort (.slice oo rs.length oc) rs wr HS.out.a (by omega)).mono ?_
      rintro e w4 ⟨v4, rfl, hs4, hb4⟩
      rw [HES.out, RES.out] at hs4
      obtain ⟨a4, c4', rfl⟩ := hs4.form
      have HT := Lib.hid (HT.out.later hb4)
      have HS4 := Lib.hid hs4
      clear hs4 hb4
      go_wp2
      go_ret
      exact ⟨_, rfl, HS4.out, HT.out.low⟩
end
end Go.Proofs.YtnnieegddbcfcaaGreatDoor
namespace Go.Proofs.YtnnieegddbcfcaaGreatDoor
open Go.RowKit Go.Shelf

section
variable {w : World} {b1 b2 : Nat}
end
end Go.Proofs.YtnnieegddbcfcaaGreatDoor
namespace Go.Proofs.YtnnieegddbcfcaaGreatDoor
open Go.RowKit Go.Shelf

/-- The texts of queries, read in the first world; how many there are was told in a later one. -/
theorem who_ex2 {w w' : World} {qs : List Qv} (h : ∀ q ∈ qs, q.ok w) (h' : ∀ q ∈ qs, q.okN 40 w') : ∃ F, WhoF w qs F ∧ ∀ q ∈ qs, ∀ s ∈ F q, s.size ≤ 9223372036854775807 := by
  have key : ∀ q, ∃ ss : List ByteArray, q ∈ qs → (SlA w 1 q.w ss.length (strs ss) ∧ ss.length ≤ 40 ∧ ∀ s ∈ ss, s.size ≤ 9223372036854775807) := by
    intro q
    by_cases hq : q ∈ qs
    · obtain ⟨_, _, ss, h1, h2⟩ := h q hq
      obtain ⟨_, _, ss', h3, h4, _⟩ := h' q hq
      obtain ⟨a, c, e⟩ := h1.form
      obtain ⟨a', c', e'⟩ := h3.form
      rw [e] at e'
      simp only [Value.slice.injEq] at e'
      exact ⟨ss, fun _ => ⟨h1, by rw [e'.2.1]; exact h4, h2⟩⟩
    · exact ⟨[], fun h' => absurd h' hq⟩
  refine ⟨fun q => (key q).choose, fun q hq => ⟨((key q).choose_spec hq).1, ((key q).choose_spec hq).2.1⟩, fun q hq => ((key q).choose_spec hq).2.2⟩
/-- What a light policy that may be gives. -/
structure GoodP (l : List St) (g h : List Rl) (qs : List Qv) (F : Qv → List ByteArray) : Prop where
  right : ∀ s ∈ l, rightS s = true
  ps : (newB (allPrins l g h qs F)).length ≤ 16
  ns : (newB (allNames l g h qs)).length ≤ 12
theorem RightP.good {l : List St} {g h : List Rl} {qs : List Qv} {F : Qv → List ByteArray} (hr : RightP l g h qs F) : GoodP l g h qs F := by
  obtain ⟨h1, _, _, _, _, _, h2⟩ := hr
  unfold fitsP at h2
  simp only [Bool.and_eq_true, decide_eq_true_iff] at h2
  exact ⟨h1, h2.2.1, h2.2.2⟩
end Go.Proofs.YtnnieegddbcfcaaGreatDoor
namespace Go.Proofs.YtnnieegddbcfcaaGreatDoor
open Go.RowKit Go.Shelf

theorem RightP.polx {w : World} {v0 v1 v2 v3 : Value} {l : List St} {g h : List Rl} {qs : List Qv} {F : Qv → List ByteArray} (hr : RightP l g h qs F) (hp : PolAt w v0 v1 v2 v3 l g h qs) (hT : TB w) (hl : l.length ≤ 30) (hg : g.length ≤ 30) (hh : h.length ≤ 30) (hq : qs.length ≤ 30) (hF : WhoF w qs F) (hs : allLe l 40) :
    PolX w v0 v1 v2 v3 l g h qs F (newB (allPrins l g h qs F)) (newB (allNames l g h qs)) :=
  ⟨hp, by omega, by omega, by omega, by omega, hF, fun x hx => (hs x hx).mono (by decide), hT, rfl, rfl, by have := hr.good.ps; omega, by have := hr.good.ns; omega, hr.1, hr.names.1, hr.names.2⟩
def SmallP (w : World) (v0 v1 v2 v3 : Value) (l : List St) (g h : List Rl) (qs : List Qv) (e : Ending) : Prop := ∃ b, e = .returned (.bool b) ∧ (b = true → ∃ F PS NS, PolX w v0 v1 v2 v3 l g h qs F PS NS ∧ (PS.length ≤ 6 ∧ NS.length ≤ 4) ∧ RightP l g h qs F ∧ (l.length ≤ 30 ∧ g.length ≤ 30 ∧ h.length ≤ 30 ∧ qs.length ≤ 30))
theorem small_no {w : World} {v0 v1 v2 v3 : Value} {l : List St} {g h : List Rl} {qs : List Qv} : SmallP w v0 v1 v2 v3 l g h qs (.returned (.bool false)) := ⟨false, rfl, fun h => by cases h⟩
/-- How many pairs statements of few principals and names can tell. -/
theorem sound_in {l : List St} {A B : List ByteArray} (h : ∀ s ∈ l, InAB A B s) {ps : List Pr} (hs : SoundS l ps) : ∀ p ∈ ps, (p.1.o ∈ A ∧ p.1.n ∈ B) ∧ p.2 ∈ A := by
  refine hs (fun r x => (r.o ∈ A ∧ r.n ∈ B) ∧ x ∈ A) ⟨fun s hs hk => ⟨(h s hs).r _ (roles_head s), (h s hs).w _ (by unfold whoS; rw [if_pos hk]; simp)⟩, fun s hs _ x hx => ⟨(h s hs).r _ (roles_head s), hx.2⟩, fun s hs _ x y _ hy => ⟨(h s hs).r _ (roles_head s), hy.2⟩, fun s hs _ x hx _ => ⟨(h s hs).r _ (roles_head s), hx.2⟩⟩
theorem sound_few {l : List St} {A B : List ByteArray} (h : ∀ s ∈ l, InAB A B s) : ∀ ps : List Pr, ps.Nodup → SoundS l ps → ps.length ≤ A.length * B.length * A.length := by
  intro ps hn hs
  have hl : ((allR A B).flatMap (fun r => A.map (fun x => (r, x)))).length = A.length * B.length * A.length := by
    rw [← allR_len]
    induction allR A B with
    | nil => simp
    | cons a r ih => rw [List.flatMap_cons, List.length_append, ih, List.length_map, List.length_cons, Nat.add_mul, Nat.one_mul, Nat.add_comm]
  rw [← hl]
  refine nodup_le _ _ hn (fun p hp => ?_)
  obtain ⟨h1, h2⟩ := sound_in h hs p hp
  exact List.mem_flatMap.2 ⟨p.1, allR_mem.2 h1, List.mem_map.2 ⟨p.2, h2, rfl⟩⟩
theorem ref3_SameRolesT (va vb : Value) (l : List Rl) (w : World) (ha : SlA w 2 va l.length (l.flatMap Rl.cells)) (hb : SlA w 2 vb l.length (l.flatMap Rl.cells)) :
    Calls Tryz.prog 42 #[va, vb] w fun e w' => e = .returned (.bool true) ∧ Below w.heap.size w w' :=
  (ref3_SameRolesE va vb l l w ha hb).mono fun e w' ⟨he, hb⟩ => ⟨by rw [he, decide_eq_true rfl], hb⟩
set_option maxRecDepth 100000 in
set_option maxHeartbeats 4000000 in
theorem law12_small (v0 v1 v2 v3 : Value) (l : List St) (g h : List Rl) (qs : List Qv) (w : World) (hp : PolAt w v0 v1 v2 v3 l g h qs) (hT : TB w) :
    Calls Tryz.prog 35 #[pv v0 v1 v2 v3] w fun e w' => SmallP w v0 v1 v2 v3 l g h qs e ∧ Below w.heap.size w w' := by
  have HP := Lib.hid hp
  have HTB := Lib.hid hT
  have LP := Lib.hid (fun W hb => law5_LightR v0 v1 v2 v3 l g h qs W (hp.below (w' := W) hb))
  obtain ⟨a0, c0, rfl⟩ := hp.rs.form
  obtain ⟨a1, c1, rfl⟩ := hp.rg.form
  obtain ⟨a2, c2, rfl⟩ := hp.rh.form
  obtain ⟨a3, c3, rfl⟩ := hp.rq.form
  have HT := Lib.hid (show OneAt w #[.slice a0 l.length c0, .slice a1 g.length c1, .slice a2 h.length c2, .slice a3 qs.length c3] (w.alloc (.cells #[.slice a0 l.length c0, .slice a1 g.length c1, .slice a2 h.length c2, .slice a3 qs.length c3] 26)) from ⟨Blk.new w _ _, (Below.refl _ _).alloc (Nat.le_refl _) _⟩)
  clear hp hT
  go_enter Tryz.func35, Tryz.ntmps35
  go_wp2_with fail
  refine (LP.out _ HT.out.low).mono ?_
  rintro e w1 ⟨⟨bp, rfl, hlp⟩, hb1⟩
  have HT := Lib.hid (HT.out.later hb1)
  have HLP := Lib.hid hlp
  clear hlp hb1 LP
  cases bp with
  | false =>
    go_wp2_with fail
    go_ret
    exact ⟨small_no, HT.out.low⟩
  | true =>
  obtain ⟨⟨hl30, hg30, hh30, hq30, hl40, hqk⟩, hgh⟩ := HLP.out (by first | rfl | trivial)
  obtain ⟨F, hF, hFs⟩ := who_ex2 HP.out.lq hqk
  have HF := Lib.hid hF
  have HL40 := Lib.hid hl40
  have RT := Lib.hid (fun W hb => ref5_RightL (.slice a0 l.length c0) (.slice a1 g.length c1) (.slice a2 h.length c2) (.slice a3 qs.length c3) l g h qs W (HP.out.below (w' := W) hb) hl30 hg30 hh30 hq30 hl40 F (HF.out.below hb) hFs)
  clear HLP hqk hgh hF hFs hl40
  obtain ⟨ca, fa, za⟩ := HT.out.a
  go_wp2_with fail
  refine (RT.out _ HT.out.low).mono ?_
  rintro e w2 ⟨⟨br, rfl, hri⟩, hb2⟩
  have HT := Lib.hid (HT.out.later hb2)
  have HRI := Lib.hid hri
  clear hri hb2 RT ca fa za
  cases br with
  | false =>
    go_wp2_with fail
    go_ret
    exact ⟨small_no, HT.out.low⟩
  | true =>
  have hrp := HRI.out.1 (by first | rfl | trivial)
  have HPX := Lib.hid (hrp.polx HP.out HTB.out hl30 hg30 hh30 hq30 HF.out HL40.out)
  have HRP := Lib.hid hrp
  have PR := Lib.hid (fun W hb => ref5_PrinsX (HPX.out.below (w' := W) hb))
  have PN := Lib.hid (fun W hb => ref5_NamesX (HPX.out.below (w' := W) hb))
  clear HRI hrp
  generalize newB (allPrins l g h qs F) = PS at *
  generalize newB (allNames l g h qs) = NS at *
  obtain ⟨ca, fa, za⟩ := HT.out.a
  go_wp2_with fail
  refine (PR.out _ HT.out.low).mono ?_
  rintro e w3 ⟨vp, rfl, ho3, hb3⟩
  obtain ⟨pa, pc, rfl⟩ := own_form ho3
  have HT := Lib.hid (HT.out.later hb3)
  clear ho3 hb3 PR ca fa za
  by_cases h6 : PS.length ≤ 6
  · have d6 : decide ((PS.length : Int) ≤ 6) = true := by rw [decide_eq_true_iff]; omega
    obtain ⟨ca, fa, za⟩ := HT.out.a
    go_wp2_with fail
    refine (PN.out _ HT.out.low).mono ?_
    rintro e w4 ⟨vn, rfl, ho4, hb4⟩
    obtain ⟨na, nc, rfl⟩ := own_form ho4
    have HT := Lib.hid (HT.out.later hb4)
    clear ho4 hb4 PN ca fa za
    by_cases h4 : NS.length ≤ 4
    · have d4 : decide ((NS.length : Int) ≤ 4) = true := by rw [decide_eq_true_iff]; omega
      have HS := Lib.hid (show SmallP w (.slice a0 l.length c0) (.slice a1 g.length c1) (.slice a2 h.length c2) (.slice a3 qs.length c3) l g h qs (.returned (.bool true)) from ⟨true, rfl, fun _ => ⟨F, PS, NS, HPX.out, ⟨h6, h4⟩, HRP.out, hl30, hg30, hh30, hq30⟩⟩)
      go_wp2_with fail
      go_ret
      exact ⟨HS.out, HT.out.low⟩
    · have d4 : decide ((NS.length : Int) ≤ 4) = false := by rw [decide_eq_false_iff_not]; omega
      go_wp2_with fail
      go_ret
      exact ⟨small_no, HT.out.low⟩
  · have d6 : decide ((PS.length : Int) ≤ 6) = false := by rw [decide_eq_false_iff_not]; omega
    go_wp2_with fail
    go_ret
    exact ⟨small_no, HT.out.low⟩
end Go.Proofs.YtnnieegddbcfcaaGreatDoor
namespace Go.Proofs.YtnnieegddbcfcaaGreatDoor
open Go.RowKit Go.Shelf

set_option maxRecDepth 100000 in
set_option maxHeartbeats 16000000 in
theorem law12_HighTells (v0 v1 v2 v3 : Value) (l : List St) (g h : List Rl) (qs : List Qv) (r : Rl) (w : World) (hp : PolAt w v0 v1 v2 v3 l g h qs) (hT : TB w) :
    Calls Tryz.prog 5 #[pv v0 v1 v2 v3, rv r] w fun e w' => e = .returned (.bool true) ∧ Below w.heap.size w w' := by
  have HL := Lib.hid (fun W hb => law12_lives W (hT.below (w' := W) hb))
  have SM := Lib.hid (fun W hb => law12_small v0 v1 v2 v3 l g h qs W (hp.below (w' := W) hb) (hT.below hb))
  obtain ⟨a0, c0, rfl⟩ := hp.rs.form
  obtain ⟨a1, c1, rfl⟩ := hp.rg.form
  obtain ⟨a2, c2, rfl⟩ := hp.rh.form
  obtain ⟨a3, c3, rfl⟩ := hp.rq.form
  obtain ⟨r1, r2⟩ := r
  have HT := Lib.hid (show TwoAt w #[.slice a0 l.length c0, .slice a1 g.length c1, .slice a2 h.length c2, .slice a3 qs.length c3] #[.string r1, .string r2] ((w.alloc (.cells #[.slice a0 l.length c0, .slice a1 g.length c1, .slice a2 h.length c2, .slice a3 qs.length c3] 26)).alloc (.cells #[.string r1, .string r2] 28))
    from ⟨(Blk.new w _ _).alloc _, (by have := Blk.new (w.alloc (.cells #[.slice a0 l.length c0, .slice a1 g.length c1, .slice a2 h.length c2, .slice a3 qs.length c3] 26)) #[.string r1, .string r2] 28; simpa using this), ((Below.refl _ _).alloc (Nat.le_refl _) _).alloc (by simp) _⟩)
  clear hp hT
  go_enter Tryz.func5, Tryz.ntmps5
  go_wp2_with fail
  refine (SM.out _ HT.out.low).mono ?_
  rintro e w1 ⟨⟨bp, rfl, hlp⟩, hb1⟩
  have HT := Lib.hid (HT.out.later hb1)
  have HLP := Lib.hid hlp
  clear hlp SM
  cases bp with
  | false =>
    go_wp2_with fail
    refine (HL.out _ HT.out.low).mono ?_
    rintro e w6 ⟨rfl, hb6⟩
    have T6 := Lib.hid (HT.out.later hb6)
    clear hb6
    go_wp2
    go_ret
    exact ⟨rfl, T6.out.low⟩
  | true =>
  obtain ⟨F, PS, NS, hP, ⟨h6, h4⟩, _, hl30, _⟩ := HLP.out (by first | rfl | trivial)
  have HP := Lib.hid (hP.below hb1)
  have hml := maxS_len l g PS NS
  have hmn : (PS.length + 1) * (PS.length + 1) * NS.length ≤ 7 * 7 * 4 := Nat.mul_le_mul (Nat.mul_le_mul (by omega) (by omega)) h4
  have hpx := putX_len PS
  have hfew : (putX PS).length * NS.length * (putX PS).length ≤ 7 * 4 * 7 := Nat.mul_le_mul (Nat.mul_le_mul (by omega) h4) (by omega)
  have BD := Lib.hid (fun ps hn hs => Nat.le_trans (sound_few (maxS_in (g := g) hP.inAB) ps hn hs) hfew)
  clear HLP hP hb1
  obtain ⟨cb, fb, zb⟩ := HT.out.b
  obtain ⟨ca, fa, za⟩ := HT.out.a
  go_wp2_with fail
  refine (ref12_Maximal HP.out h6 h4).mono ?_
  rintro e w2 ⟨v5, rfl, hs5, hb2⟩
  obtain ⟨a5, c5, rfl⟩ := hs5.form
  have HT := Lib.hid (HT.out.later hb2)
  have HP := Lib.hid (HP.out.below hb2)
  have HS5 := Lib.hid hs5
  clear hs5 hb2 cb fb zb ca fa za
  go_wp2_with fail
  refine (ref11_Eval (.slice a5 (maxS l g PS NS).length c5) (maxS l g PS NS) 196 _ HS5.out.a (by omega) BD.out).mono ?_
  rintro e w3 ⟨v6, ps, rfl, ho6, hle, _, hpl, hb3⟩
  obtain ⟨a6, c6, rfl⟩ := own_form ho6
  have HT := Lib.hid (HT.out.later hb3)
  have HP := Lib.hid (HP.out.below hb3)
  have HS6 := Lib.hid (Sl.of_own ho6).a
  have HS5 := Lib.hid (HS5.out.below hb3)
  have HLE := Lib.hid hle
  clear ho6 hb3 hle BD
  obtain ⟨ca, fa, za⟩ := HT.out.a
  go_wp2_with fail
  refine (high_Eval HP.out h6 h4).mono ?_
  rintro e w4 ⟨t, M, fs, st, rfl, htm, hb4⟩
  have HT := Lib.hid (HT.out.later hb4)
  have HP := Lib.hid (HP.out.below hb4)
  have HS6 := Lib.hid (HS6.out.below hb4)
  have HS5 := Lib.hid (HS5.out.below hb4)
  obtain ⟨ba, bb, htb⟩ := htm.tbl
  have HTb := Lib.hid htb
  clear htb htm hb4 ca fa za
  have HT := HT.out
  go_wp2_with fail
  refine wp_region_held_drew (S := (fun W => (∀ o, W.cell? ⟨w.heap.size, o, none⟩ = (#[.slice a0 l.length c0, .slice a1 g.length c1, .slice a2 h.length c2, .slice a3 qs.length c3] : Array Value)[o]?) ∧ (∀ o, W.cell? ⟨w.heap.size + 1, o, none⟩ = (#[.string r1, .string r2] : Array Value)[o]?))) (by kernel_rfl) ⟨HT.drew.a.1, HT.drew.b.1⟩ (fun hHeld => ?_)
  have HS5 := Lib.hid (HS5.out.below (below_drew (Below.refl _ w4)))
  have HS6 := Lib.hid (HS6.out.below (below_drew (Below.refl _ w4)))
  have HTb := Lib.hid (HTb.out.below (below_drew (Below.refl _ w4)))
  have HP := Lib.hid (HP.out.below (below_drew (Below.refl _ w4)))
  have HT := HT.drew
  obtain ⟨wk, hwk⟩ : ∃ W, W = w4.drew := ⟨_, rfl⟩
  rw [← hwk] at HT HS5 HS6 HTb HP hHeld ⊢
  clear hwk
  (refine held_yes (v := ?_) 0 rfl (by kernel_rfl) (by kernel_rfl) (by kernel_rfl) (fun _ _ _ h => h) (by rfl) (by assumption) ?_ ?_; rotate_left; (focus ((intro w hSw); (try dsimp only at hSw); go_simp; (try with_reducible rfl))); (try simp only [Act.put, List.setIfInBounds_toArray, List.set_cons_zero, List.set_cons_succ])); (refine held_yes (v := ?_) 2 rfl (by kernel_rfl) (by kernel_rfl) (by kernel_rfl) (fun _ _ _ h => h) (by rfl) (by assumption) ?_ ?_; rotate_left; (focus ((intro w hSw); (try dsimp only at hSw); go_simp; (try with_reducible rfl))); (try simp only [Act.put, List.setIfInBounds_toArray, List.set_cons_zero, List.set_cons_succ]))
  (refine held_call 1 rfl (by kernel_rfl) (fun K hK => ?_); go_simp)
  go_at_call 39; refine (high_Maximal HP.out h6 h4).mono ?_; rintro e wz1 ⟨vm, rfl, hm1, hbq⟩; obtain ⟨ma, mc, rfl⟩ := hm1.form
  have HT := HT.later hbq
  have HS5 := Lib.hid (HS5.out.below hbq)
  have HS6 := Lib.hid (HS6.out.below hbq)
  have HTb := Lib.hid (HTb.out.below hbq)
  have HP := Lib.hid (HP.out.below hbq)
  have HM1 := Lib.hid hm1
  clear hm1 hbq
  (refine hK.out _ _ (⟨HT.a.1, HT.b.1⟩) (fun hHeld => ?_); clear hK K; (try simp only [Act.put, List.setIfInBounds_toArray, List.set_cons_zero, List.set_cons_succ]))
  (refine held_call 3 rfl (by kernel_rfl) (fun K hK => ?_); go_simp)
  go_at_call 30; refine (ref3_SameT _ _ (maxS l g PS NS) _ HM1.out.a HS5.out.a).mono ?_; rintro e wz3 ⟨rfl, hbq⟩
  have HT := HT.later hbq
  have HS5 := Lib.hid (HS5.out.below hbq)
  have HS6 := Lib.hid (HS6.out.below hbq)
  have HTb := Lib.hid (HTb.out.below hbq)
  have HP := Lib.hid (HP.out.below hbq)
  have HM1 := Lib.hid (HM1.out.below hbq)
  clear hbq
  (refine hK.out _ _ (⟨HT.a.1, HT.b.1⟩) (fun hHeld => ?_); clear hK K; (try simp only [Act.put, List.setIfInBounds_toArray, List.set_cons_zero, List.set_cons_succ]))
  (refine held_yes (v := ?_) 4 rfl (by kernel_rfl) (by kernel_rfl) (by kernel_rfl) (fun _ _ _ h => h) (by rfl) (by assumption) ?_ ?_; rotate_left; (focus ((intro w hSw); (try dsimp only at hSw); go_simp; (try with_reducible rfl))); (try simp only [Act.put, List.setIfInBounds_toArray, List.set_cons_zero, List.set_cons_succ])); (refine held_yes (v := ?_) 5 rfl (by kernel_rfl) (by kernel_rfl) (by kernel_rfl) (fun _ _ _ h => h) (by rfl) (by assumption) ?_ ?_; rotate_left; (focus ((intro w hSw); (try dsimp only at hSw); go_simp; (try with_reducible rfl))); (try simp only [Act.put, List.setIfInBounds_toArray, List.set_cons_zero, List.set_cons_succ])); (refine held_yes (v := ?_) 7 rfl (by kernel_rfl) (by kernel_rfl) (by kernel_rfl) (fun _ _ _ h => h) (by rfl) (by assumption) ?_ ?_; rotate_left; (focus ((intro w hSw); (try dsimp only at hSw); go_simp; (try with_reducible rfl))); (try simp only [Act.put, List.setIfInBounds_toArray, List.set_cons_zero, List.set_cons_succ]))
  (refine held_call 6 rfl (by kernel_rfl) (fun K hK => ?_); go_simp)
  go_at_call 40; refine (high_Fresh HP.out).mono ?_; rintro e wz6 ⟨rfl, hbq⟩
  have HT := HT.later hbq
  have HS5 := Lib.hid (HS5.out.below hbq)
  have HS6 := Lib.hid (HS6.out.below hbq)
  have HTb := Lib.hid (HTb.out.below hbq)
  have HP := Lib.hid (HP.out.below hbq)
  have HM1 := Lib.hid (HM1.out.below hbq)
  clear hbq
  (refine hK.out _ _ (⟨HT.a.1, HT.b.1⟩) (fun hHeld => ?_); clear hK K; (try simp only [Act.put, List.setIfInBounds_toArray, List.set_cons_zero, List.set_cons_succ]))
  (refine held_call 8 rfl (by kernel_rfl) (fun K hK => ?_); go_simp)
  go_at_call 41; refine (ref12_Fresh HP.out).mono ?_; rintro e wz8 ⟨rfl, hbq⟩
  have HT := HT.later hbq
  have HS5 := Lib.hid (HS5.out.below hbq)
  have HS6 := Lib.hid (HS6.out.below hbq)
  have HTb := Lib.hid (HTb.out.below hbq)
  have HP := Lib.hid (HP.out.below hbq)
  have HM1 := Lib.hid (HM1.out.below hbq)
  clear hbq
  (refine hK.out _ _ (⟨HT.a.1, HT.b.1⟩) (fun hHeld => ?_); clear hK K; (try simp only [Act.put, List.setIfInBounds_toArray, List.set_cons_zero, List.set_cons_succ]))
  (refine held_yes (v := ?_) 9 rfl (by kernel_rfl) (by kernel_rfl) (by kernel_rfl) (fun _ _ _ h => h) (by rfl) (by assumption) ?_ ?_; rotate_left; (focus ((intro w hSw); (try dsimp only at hSw); go_simp; (try with_reducible rfl))); (try simp only [Act.put, List.setIfInBounds_toArray, List.set_cons_zero, List.set_cons_succ])); (refine held_yes (v := ?_) 10 rfl (by kernel_rfl) (by kernel_rfl) (by kernel_rfl) (fun _ _ _ h => h) (by rfl) (by assumption) ?_ ?_; rotate_left; (focus ((intro w hSw); (try dsimp only at hSw); go_simp; (try with_reducible rfl))); (try simp only [Act.put, List.setIfInBounds_toArray, List.set_cons_zero, List.set_cons_succ])); (refine held_yes (v := ?_) 11 rfl (by kernel_rfl) (by kernel_rfl) (by kernel_rfl) (fun _ _ _ h => h) (by rfl) (by assumption) ?_ ?_; rotate_left; (focus ((intro w hSw); (try dsimp only at hSw); go_simp; (try with_reducible rfl))); (try simp only [Act.put, List.setIfInBounds_toArray, List.set_cons_zero, List.set_cons_succ])); (refine held_yes (v := ?_) 12 rfl (by kernel_rfl) (by kernel_rfl) (by kernel_rfl) (fun _ _ _ h => h) (by rfl) (by assumption) ?_ ?_; rotate_left; (focus ((intro w hSw); (try dsimp only at hSw); go_simp; (try with_reducible rfl))); (try simp only [Act.put, List.setIfInBounds_toArray, List.set_cons_zero, List.set_cons_succ])); (refine held_yes (v := ?_) 14 rfl (by kernel_rfl) (by kernel_rfl) (by kernel_rfl) (fun _ _ _ h => h) (by rfl) (by assumption) ?_ ?_; rotate_left; (focus ((intro w hSw); (try dsimp only at hSw); go_simp; (try with_reducible rfl))); (try simp only [Act.put, List.setIfInBounds_toArray, List.set_cons_zero, List.set_cons_succ]))
  (refine held_call 13 rfl (by kernel_rfl) (fun K hK => ?_); go_simp)
  go_at_call 43; refine (high_Roles HP.out h6 h4).mono ?_; rintro e wz13 ⟨vn, rfl, hn1, hbq⟩; obtain ⟨na, nc, rfl⟩ := hn1.form
  have HT := HT.later hbq
  have HS5 := Lib.hid (HS5.out.below hbq)
  have HS6 := Lib.hid (HS6.out.below hbq)
  have HTb := Lib.hid (HTb.out.below hbq)
  have HP := Lib.hid (HP.out.below hbq)
  have HM1 := Lib.hid (HM1.out.below hbq)
  have HN1 := Lib.hid hn1
  clear hn1 hbq
  (refine hK.out _ _ (⟨HT.a.1, HT.b.1⟩) (fun hHeld => ?_); clear hK K; (try simp only [Act.put, List.setIfInBounds_toArray, List.set_cons_zero, List.set_cons_succ]))
  (refine held_call 15 rfl (by kernel_rfl) (fun K hK => ?_); go_simp)
  go_at_call 44; refine (ref12_Roles HP.out h6 h4).mono ?_; rintro e wz15 ⟨vo, rfl, ho1, hbq⟩; obtain ⟨oa, oc, rfl⟩ := own_form ho1
  have HT := HT.later hbq
  have HS5 := Lib.hid (HS5.out.below hbq)
  have HS6 := Lib.hid (HS6.out.below hbq)
  have HTb := Lib.hid (HTb.out.below hbq)
  have HP := Lib.hid (HP.out.below hbq)
  have HM1 := Lib.hid (HM1.out.below hbq)
  have HN1 := Lib.hid (HN1.out.below hbq)
  have HO1 := Lib.hid (Sl.of_own ho1)
  clear hbq
  clear ho1
  (refine hK.out _ _ (⟨HT.a.1, HT.b.1⟩) (fun hHeld => ?_); clear hK K; (try simp only [Act.put, List.setIfInBounds_toArray, List.set_cons_zero, List.set_cons_succ]))
  (refine held_call 16 rfl (by kernel_rfl) (fun K hK => ?_); go_simp)
  go_at_call 42; refine (ref3_SameRolesT _ _ (rolesX PS NS g) _ HN1.out.a HO1.out.a).mono ?_; rintro e wz16 ⟨rfl, hbq⟩
  have HT := HT.later hbq
  have HS5 := Lib.hid (HS5.out.below hbq)
  have HS6 := Lib.hid (HS6.out.below hbq)
  have HTb := Lib.hid (HTb.out.below hbq)
  have HP := Lib.hid (HP.out.below hbq)
  have HM1 := Lib.hid (HM1.out.below hbq)
  have HN1 := Lib.hid (HN1.out.below hbq)
  have HO1 := Lib.hid (HO1.out.below hbq)
  clear hbq
  (refine hK.out _ _ (⟨HT.a.1, HT.b.1⟩) (fun hHeld => ?_); clear hK K; (try simp only [Act.put, List.setIfInBounds_toArray, List.set_cons_zero, List.set_cons_succ]))
  (refine held_yes (v := ?_) 17 rfl (by kernel_rfl) (by kernel_rfl) (by kernel_rfl) (fun _ _ _ h => h) (by rfl) (by assumption) ?_ ?_; rotate_left; (focus ((intro w hSw); (try dsimp only at hSw); go_simp; (try with_reducible rfl))); (try simp only [Act.put, List.setIfInBounds_toArray, List.set_cons_zero, List.set_cons_succ])); (refine held_yes (v := ?_) 18 rfl (by kernel_rfl) (by kernel_rfl) (by kernel_rfl) (fun _ _ _ h => h) (by rfl) (by assumption) ?_ ?_; rotate_left; (focus ((intro w hSw); (try dsimp only at hSw); go_simp; (try with_reducible rfl))); (try simp only [Act.put, List.setIfInBounds_toArray, List.set_cons_zero, List.set_cons_succ])); (refine held_yes (v := ?_) 19 rfl (by kernel_rfl) (by kernel_rfl) (by kernel_rfl) (fun _ _ _ h => h) (by rfl) (by assumption) ?_ ?_; rotate_left; (focus ((intro w hSw); (try dsimp only at hSw); go_simp; (try with_reducible rfl))); (try simp only [Act.put, List.setIfInBounds_toArray, List.set_cons_zero, List.set_cons_succ])); (refine held_yes (v := ?_) 20 rfl (by kernel_rfl) (by kernel_rfl) (by kernel_rfl) (fun _ _ _ h => h) (by rfl) (by assumption) ?_ ?_; rotate_left; (focus ((intro w hSw); (try dsimp only at hSw); go_simp; (try with_reducible rfl))); (try simp only [Act.put, List.setIfInBounds_toArray, List.set_cons_zero, List.set_cons_succ])); (refine held_yes (v := ?_) 22 rfl (by kernel_rfl) (by kernel_rfl) (by kernel_rfl) (fun _ _ _ h => h) (by rfl) (by assumption) ?_ ?_; rotate_left; (focus ((intro w hSw); (try dsimp only at hSw); go_simp; (try with_reducible rfl))); (try simp only [Act.put, List.setIfInBounds_toArray, List.set_cons_zero, List.set_cons_succ])); (refine held_yes (v := ?_) 23 rfl (by kernel_rfl) (by kernel_rfl) (by kernel_rfl) (fun _ _ _ h => h) (by rfl) (by assumption) ?_ ?_; rotate_left; (focus ((intro w hSw); (try dsimp only at hSw); go_simp; (try with_reducible rfl))); (try simp only [Act.put, List.setIfInBounds_toArray, List.set_cons_zero, List.set_cons_succ]))
  (refine held_call 21 rfl (by kernel_rfl) (fun K hK => ?_); go_simp)
  go_at_call 45; refine (high_Members HP.out h6 h4 ⟨r1, r2⟩).mono ?_; rintro e wz21 ⟨vp, zs, rfl, hp1, hp2, hbq⟩; rw [hp2 ps HLE.out] at hp1; clear hp2; obtain ⟨pa, pc, rfl⟩ := hp1.form
  have HT := HT.later hbq
  have HS5 := Lib.hid (HS5.out.below hbq)
  have HS6 := Lib.hid (HS6.out.below hbq)
  have HTb := Lib.hid (HTb.out.below hbq)
  have HP := Lib.hid (HP.out.below hbq)
  have HM1 := Lib.hid (HM1.out.below hbq)
  have HN1 := Lib.hid (HN1.out.below hbq)
  have HO1 := Lib.hid (HO1.out.below hbq)
  have HP1 := Lib.hid hp1
  clear hp1 hbq
  (refine hK.out _ _ (⟨HT.a.1, HT.b.1⟩) (fun hHeld => ?_); clear hK K; (try simp only [Act.put, List.setIfInBounds_toArray, List.set_cons_zero, List.set_cons_succ]))
  (refine held_call 24 rfl (by kernel_rfl) (fun K hK => ?_); go_simp)
  go_at_call 23; refine (ref11_Members (.slice a6 ps.length c6) ps ⟨r1, r2⟩ _ HS6.out (by omega)).mono ?_; rintro e wz24 ⟨vq, rfl, hq1, hbq⟩; obtain ⟨qa, qc, rfl⟩ := hq1.form
  have HT := HT.later hbq
  have HS5 := Lib.hid (HS5.out.below hbq)
  have HS6 := Lib.hid (HS6.out.below hbq)
  have HTb := Lib.hid (HTb.out.below hbq)
  have HP := Lib.hid (HP.out.below hbq)
  have HM1 := Lib.hid (HM1.out.below hbq)
  have HN1 := Lib.hid (HN1.out.below hbq)
  have HO1 := Lib.hid (HO1.out.below hbq)
  have HP1 := Lib.hid (HP1.out.below hbq)
  have HQ1 := Lib.hid hq1
  clear hq1 hbq
  (refine hK.out _ _ (⟨HT.a.1, HT.b.1⟩) (fun hHeld => ?_); clear hK K; (try simp only [Act.put, List.setIfInBounds_toArray, List.set_cons_zero, List.set_cons_succ]))
  (refine held_call 25 rfl (by kernel_rfl) (fun K hK => ?_); go_simp)
  go_at_call 31; refine (ref1_SameB _ _ (membersP ps ⟨r1, r2⟩) _ HP1.out.a HQ1.out).mono ?_; rintro e wz25 ⟨rfl, hbq⟩
  have HT := HT.later hbq
  have HS5 := Lib.hid (HS5.out.below hbq)
  have HS6 := Lib.hid (HS6.out.below hbq)
  have HTb := Lib.hid (HTb.out.below hbq)
  have HP := Lib.hid (HP.out.below hbq)
  have HM1 := Lib.hid (HM1.out.below hbq)
  have HN1 := Lib.hid (HN1.out.below hbq)
  have HO1 := Lib.hid (HO1.out.below hbq)
  have HP1 := Lib.hid (HP1.out.below hbq)
  have HQ1 := Lib.hid (HQ1.out.below hbq)
  clear hbq
  (refine hK.out _ _ (⟨HT.a.1, HT.b.1⟩) (fun hHeld => ?_); clear hK K; (try simp only [Act.put, List.setIfInBounds_toArray, List.set_cons_zero, List.set_cons_succ]))
  (refine held_yes (v := ?_) 26 rfl (by kernel_rfl) (by kernel_rfl) (by kernel_rfl) (fun _ _ _ h => h) (by rfl) (by assumption) ?_ ?_; rotate_left; (focus ((intro w hSw); (try dsimp only at hSw); go_simp; (try with_reducible rfl))); (try simp only [Act.put, List.setIfInBounds_toArray, List.set_cons_zero, List.set_cons_succ])); (refine held_yes (v := ?_) 27 rfl (by kernel_rfl) (by kernel_rfl) (by kernel_rfl) (fun _ _ _ h => h) (by rfl) (by assumption) ?_ ?_; rotate_left; (focus ((intro w hSw); (try dsimp only at hSw); go_simp; (try with_reducible rfl))); (try simp only [Act.put, List.setIfInBounds_toArray, List.set_cons_zero, List.set_cons_succ])); (refine held_yes (v := ?_) 28 rfl (by kernel_rfl) (by kernel_rfl) (by kernel_rfl) (fun _ _ _ h => h) (by rfl) (by assumption) ?_ ?_; rotate_left; (focus ((intro w hSw); (try dsimp only at hSw); go_simp; (try with_reducible rfl))); (try simp only [Act.put, List.setIfInBounds_toArray, List.set_cons_zero, List.set_cons_succ])); (refine held_yes (v := ?_) 31 rfl (by kernel_rfl) (by kernel_rfl) (by kernel_rfl) (fun _ _ _ h => h) (by rfl) (by assumption) ?_ ?_; rotate_left; (focus ((intro w hSw); (try dsimp only at hSw); go_simp; (try with_reducible rfl))); (try simp only [Act.put, List.setIfInBounds_toArray, List.set_cons_zero, List.set_cons_succ]))
  (refine held_call 29 rfl (by kernel_rfl) (fun K hK => ?_); go_simp)
  go_at_call 32; refine (table_Prins HTb.out).mono ?_; rintro e wz29 ⟨rfl, rfl⟩
  (refine hK.out _ _ (⟨HT.a.1, HT.b.1⟩) (fun hHeld => ?_); clear hK K; (try simp only [Act.put, List.setIfInBounds_toArray, List.set_cons_zero, List.set_cons_succ]))
  (refine held_call 30 rfl (by kernel_rfl) (fun K hK => ?_); go_simp)
  go_at_call 33; refine (tab_All ba (putX PS) _ HTb.out.ta (by omega)).mono ?_; rintro e wz30 ⟨vr, rfl, hr1, hbq⟩; obtain ⟨ra, rc, rfl⟩ := own_form hr1
  have HT := HT.later hbq
  have HS5 := Lib.hid (HS5.out.below hbq)
  have HS6 := Lib.hid (HS6.out.below hbq)
  have HTb := Lib.hid (HTb.out.below hbq)
  have HP := Lib.hid (HP.out.below hbq)
  have HM1 := Lib.hid (HM1.out.below hbq)
  have HN1 := Lib.hid (HN1.out.below hbq)
  have HO1 := Lib.hid (HO1.out.below hbq)
  have HP1 := Lib.hid (HP1.out.below hbq)
  have HQ1 := Lib.hid (HQ1.out.below hbq)
  have HR1 := Lib.hid (Sl.of_own hr1)
  clear hbq
  clear hr1
  (refine hK.out _ _ (⟨HT.a.1, HT.b.1⟩) (fun hHeld => ?_); clear hK K; (try simp only [Act.put, List.setIfInBounds_toArray, List.set_cons_zero, List.set_cons_succ]))
  (refine held_call 32 rfl (by kernel_rfl) (fun K hK => ?_); go_simp)
  go_at_call 46; refine (ref12_Prins HP.out).mono ?_; rintro e wz32 ⟨vs, rfl, hs1, hbq⟩; obtain ⟨sa, sc, rfl⟩ := own_form hs1
  have HT := HT.later hbq
  have HS5 := Lib.hid (HS5.out.below hbq)
  have HS6 := Lib.hid (HS6.out.below hbq)
  have HTb := Lib.hid (HTb.out.below hbq)
  have HP := Lib.hid (HP.out.below hbq)
  have HM1 := Lib.hid (HM1.out.below hbq)
  have HN1 := Lib.hid (HN1.out.below hbq)
  have HO1 := Lib.hid (HO1.out.below hbq)
  have HP1 := Lib.hid (HP1.out.below hbq)
  have HQ1 := Lib.hid (HQ1.out.below hbq)
  have HR1 := Lib.hid (HR1.out.below hbq)
  have HS1 := Lib.hid (Sl.of_own hs1)
  clear hbq
  clear hs1
  (refine hK.out _ _ (⟨HT.a.1, HT.b.1⟩) (fun hHeld => ?_); clear hK K; (try simp only [Act.put, List.setIfInBounds_toArray, List.set_cons_zero, List.set_cons_succ]))
  (refine held_call 33 rfl (by kernel_rfl) (fun K hK => ?_); go_simp)
  go_at_call 31; refine (ref1_SameB _ _ (putX PS) _ HR1.out.a HS1.out.a).mono ?_; rintro e wz33 ⟨rfl, hbq⟩
  have HT := HT.later hbq
  have HS5 := Lib.hid (HS5.out.below hbq)
  have HS6 := Lib.hid (HS6.out.below hbq)
  have HTb := Lib.hid (HTb.out.below hbq)
  have HP := Lib.hid (HP.out.below hbq)
  have HM1 := Lib.hid (HM1.out.below hbq)
  have HN1 := Lib.hid (HN1.out.below hbq)
  have HO1 := Lib.hid (HO1.out.below hbq)
  have HP1 := Lib.hid (HP1.out.below hbq)
  have HQ1 := Lib.hid (HQ1.out.below hbq)
  have HR1 := Lib.hid (HR1.out.below hbq)
  have HS1 := Lib.hid (HS1.out.below hbq)
  clear hbq
  (refine hK.out _ _ (⟨HT.a.1, HT.b.1⟩) (fun hHeld => ?_); clear hK K; (try simp only [Act.put, List.setIfInBounds_toArray, List.set_cons_zero, List.set_cons_succ]))
  (refine held_yes (v := ?_) 34 rfl (by kernel_rfl) (by kernel_rfl) (by kernel_rfl) (fun _ _ _ h => h) (by rfl) (by assumption) ?_ ?_; rotate_left; (focus ((intro w hSw); (try dsimp only at hSw); go_simp; (try with_reducible rfl))); (try simp only [Act.put, List.setIfInBounds_toArray, List.set_cons_zero, List.set_cons_succ])); (refine held_yes (v := ?_) 35 rfl (by kernel_rfl) (by kernel_rfl) (by kernel_rfl) (fun _ _ _ h => h) (by rfl) (by assumption) ?_ ?_; rotate_left; (focus ((intro w hSw); (try dsimp only at hSw); go_simp; (try with_reducible rfl))); (try simp only [Act.put, List.setIfInBounds_toArray, List.set_cons_zero, List.set_cons_succ]))
  (refine held_call 36 rfl (by kernel_rfl) (fun K hK => ?_); go_simp)
  go_at_call 36; refine (HL.out _ HT.low).mono ?_; rintro e wz36 ⟨rfl, hbq⟩
  have HT := HT.later hbq
  have HS5 := Lib.hid (HS5.out.below hbq)
  have HS6 := Lib.hid (HS6.out.below hbq)
  have HTb := Lib.hid (HTb.out.below hbq)
  have HP := Lib.hid (HP.out.below hbq)
  have HM1 := Lib.hid (HM1.out.below hbq)
  have HN1 := Lib.hid (HN1.out.below hbq)
  have HO1 := Lib.hid (HO1.out.below hbq)
  have HP1 := Lib.hid (HP1.out.below hbq)
  have HQ1 := Lib.hid (HQ1.out.below hbq)
  have HR1 := Lib.hid (HR1.out.below hbq)
  have HS1 := Lib.hid (HS1.out.below hbq)
  clear hbq
  (refine hK.out _ _ (⟨HT.a.1, HT.b.1⟩) (fun hHeld => ?_); clear hK K; (try simp only [Act.put, List.setIfInBounds_toArray, List.set_cons_zero, List.set_cons_succ]))
  (refine held_yes (v := ?_) 37 rfl (by kernel_rfl) (by kernel_rfl) (by kernel_rfl) (fun _ _ _ h => h) (by rfl) (by assumption) ?_ ?_; rotate_left; (focus ((intro w hSw); (try dsimp only at hSw); go_simp; (try with_reducible rfl))); (try simp only [Act.put, List.setIfInBounds_toArray, List.set_cons_zero, List.set_cons_succ])); (refine held_yes (v := ?_) 38 rfl (by kernel_rfl) (by kernel_rfl) (by kernel_rfl) (fun _ _ _ h => h) (by rfl) (by assumption) ?_ ?_; rotate_left; (focus ((intro w hSw); (try dsimp only at hSw); go_simp; (try with_reducible rfl))); (try simp only [Act.put, List.setIfInBounds_toArray, List.set_cons_zero, List.set_cons_succ]))
  refine wpAnyH_done (by kernel_rfl) ?_ _
  have HZ := Lib.hid HT.low
  clear HT
  go_wp2_with fail
  go_ret
  exact ⟨rfl, HZ.out⟩
end Go.Proofs.YtnnieegddbcfcaaGreatDoor
namespace Go.Proofs.YtnnieegddbcfcaaGreatDoor
open Go.ChangeShapes Go.WideShapes Go.ChangeAt Go.RowKit

section
variable {H : Type} {enc : TypeId × Value → H} {w : World} {base fuel n : Nat} {sp : Nat → Bool} {held : Bool} {cs : List Value} {x : DataW H × List MemPlace} {v : Value} {d : DataW H} {ps : List MemPlace}
def dStr (H : Type) (s : ByteArray) : DataW H := .lit (.string s.data.toList)
def dRl (H : Type) (r : Rl) : DataW H := .agg [dStr H r.o, dStr H r.n]
def dSt (H : Type) (s : St) : DataW H := .agg [.lit (.int .i64 s.k), dRl H s.h, dStr H s.who, dRl H s.a, dRl H s.b, dStr H s.via]
/-- A statement whose parts are such as a world may hold. -/
def St.fits (s : St) : Prop := s.le maxLen ∧ (Lit.int IntKind.i64 s.k).wf = true

theorem two_of (h : cs.length = 2) : ∃ a b, cs = [a, b] := by
  match cs, h with
  | [a, b], _ => exact ⟨a, b, rfl⟩
theorem trod_role (h : DataW.trod enc Tryz.prog w base sp held fuel 28 cs = some x) : ∃ r : Rl, cs = r.cells ∧ x = (dRl H r, []) ∧ r.le maxLen := by
  obtain ⟨xs, n, _, rfl, hl, hlen, hf⟩ := DataW.trod_struct Tryz.underlying28 h
  have hc : Tryz.prog.cellsOf 28 = 2 := by kernel_rfl
  have hs : Tryz.prog.cellsOf 9 = 1 := by kernel_rfl
  rw [hc] at hl
  obtain ⟨a, b, rfl⟩ := two_of hl
  have f0 : DataW.trod enc Tryz.prog w base sp held n 9 [a] = xs[0]? := by simpa [hs] using hf 0 _ rfl
  have f1 : DataW.trod enc Tryz.prog w base sp held n 9 [b] = xs[1]? := by simpa [hs] using hf 1 _ rfl
  match xs, hlen with
  | [y0, y1], _ =>
    simp only [List.getElem?_cons_zero, List.getElem?_cons_succ] at f0 f1
    obtain ⟨s0, e0, g0, l0⟩ := DataW.trod_string Tryz.underlying9 f0
    obtain ⟨s1, e1, g1, l1⟩ := DataW.trod_string Tryz.underlying9 f1
    simp only [List.cons.injEq, and_true] at e0 e1
    subst e0 e1 g0 g1
    exact ⟨⟨s0, s1⟩, rfl, rfl, l0, l1⟩
theorem nine_of (h : cs.length = 9) : ∃ a b c d e f g i j, cs = [a, b, c, d, e, f, g, i, j] := by
  match cs, h with
  | [a, b, c, d, e, f, g, i, j], _ => exact ⟨a, b, c, d, e, f, g, i, j, rfl⟩
theorem trod_stmt (h : DataW.trod enc Tryz.prog w base sp held fuel 35 cs = some x) : ∃ s : St, cs = s.cells ∧ x = (dSt H s, []) ∧ s.fits := by
  obtain ⟨xs, n, _, rfl, hl, hlen, hf⟩ := DataW.trod_struct Tryz.underlying35 h
  have hc : Tryz.prog.cellsOf 35 = 9 := by kernel_rfl
  have hr : Tryz.prog.cellsOf 28 = 2 := by kernel_rfl
  have hi : Tryz.prog.cellsOf 3 = 1 := by kernel_rfl
  have hs : Tryz.prog.cellsOf 9 = 1 := by kernel_rfl
  rw [hc] at hl
  obtain ⟨c0, c1, c2, c3, c4, c5, c6, c7, c8, rfl⟩ := nine_of hl
  have f0 : DataW.trod enc Tryz.prog w base sp held n 3 [c0] = xs[0]? := by simpa [hi] using hf 0 _ rfl
  have f1 : DataW.trod enc Tryz.prog w base sp held n 28 [c1, c2] = xs[1]? := by simpa [hr] using hf 1 _ rfl
  have f2 : DataW.trod enc Tryz.prog w base sp held n 9 [c3] = xs[2]? := by simpa [hs] using hf 2 _ rfl
  have f3 : DataW.trod enc Tryz.prog w base sp held n 28 [c4, c5] = xs[3]? := by simpa [hr] using hf 3 _ rfl
  have f4 : DataW.trod enc Tryz.prog w base sp held n 28 [c6, c7] = xs[4]? := by simpa [hr] using hf 4 _ rfl
  have f5 : DataW.trod enc Tryz.prog w base sp held n 9 [c8] = xs[5]? := by simpa [hs] using hf 5 _ rfl
  match xs, hlen with
  | [y0, y1, y2, y3, y4, y5], _ =>
    simp only [List.getElem?_cons_zero, List.getElem?_cons_succ] at f0 f1 f2 f3 f4 f5
    obtain ⟨k, e0, g0, l0⟩ := DataW.trod_int Tryz.underlying3 f0
    obtain ⟨r1, e1, g1, l1⟩ := trod_role f1
    obtain ⟨s2, e2, g2, l2⟩ := DataW.trod_string Tryz.underlying9 f2
    obtain ⟨r3, e3, g3, l3⟩ := trod_role f3
    obtain ⟨r4, e4, g4, l4⟩ := trod_role f4
    obtain ⟨s5, e5, g5, l5⟩ := DataW.trod_string Tryz.underlying9 f5
    simp only [Rl.cells, List.cons.injEq, and_true] at e0 e1 e2 e3 e4 e5
    obtain ⟨rfl, rfl⟩ := e1
    obtain ⟨rfl, rfl⟩ := e3
    obtain ⟨rfl, rfl⟩ := e4
    subst e0 e2 e5 g0 g1 g2 g3 g4 g5
    exact ⟨⟨k, r1, s2, r3, r4, s5⟩, rfl, rfl, ⟨l1, l2, l3, l4, l5⟩, l0⟩
end
end Go.Proofs.YtnnieegddbcfcaaGreatDoor
namespace Go.Proofs.YtnnieegddbcfcaaGreatDoor
open Go.ChangeShapes Go.WideShapes Go.ChangeAt Go.RowKit Go.Deep

theorem laid_out : laidOutB Tryz.prog = true := by kernel_rfl
end Go.Proofs.YtnnieegddbcfcaaGreatDoor
namespace Go.Proofs.YtnnieegddbcfcaaGreatDoor
open Go.ChangeShapes Go.WideShapes Go.ChangeAt Go.RowKit Go.Deep

section
variable {H : Type} {enc : TypeId × Value → H} {w : World} {base : Nat} {held : Bool}
/-- A row whose elements are read as some data. -/
theorem open_rowOf {α : Type} [Inhabited α] (cells : α → List Value) (k : Nat) (hk : 0 < k) (hlen : ∀ x, (cells x).length = k) {t e : TypeId} (ht : Tryz.prog.underlying t = some (.slice e)) (hc : Tryz.prog.cellsOf e = k) (p : α → Prop)
    (each : ∀ n cs y, DataW.trod enc Tryz.prog w base (fun _ => true) held n e cs = some y → ∃ x : α, cs = cells x ∧ p x) {fuel : Nat} {c : Value} {y : DataW H × List MemPlace}
    (hf : DataW.trod enc Tryz.prog w base (fun _ => true) held fuel t [c] = some y) : ∃ l : List α, SlA w k c l.length (l.flatMap cells) ∧ ∀ x ∈ l, p x := by
  rcases open_slice ht hf with ⟨hcs, _⟩ | ⟨a, len, cap, m, n, D, Pl, hcs, _, hl, hm, hmm, _, hx⟩
  · simp only [List.cons.injEq, and_true] at hcs
    subst hcs
    exact ⟨[], (Sl.nil _ _).a, fun s hs => by cases hs⟩
  · simp only [List.cons.injEq, and_true] at hcs
    subst hcs
    simp only [if_true] at hmm
    subst hmm
    rw [hc] at hx
    have hex : ∀ i, i < m → ∃ s : α, w.cells? base (a.add (i * k)) k = some (cells s) ∧ p s := by
      intro i hi
      obtain ⟨cs', h1, h2⟩ := hx i hi
      obtain ⟨s, rfl, hs⟩ := each _ _ _ h2
      exact ⟨s, h1, hs⟩
    obtain ⟨S, hS⟩ := choose_lt hex
    obtain ⟨b, off, spot⟩ := a
    by_cases h0 : 0 < len
    · have hk0 : 0 < (cells (S 0)).length := by rw [hlen]; exact hk
      have c0 := (World.cells?_some (hS 0 (by omega)).1).2.2 0 hk
      rw [List.getElem?_eq_getElem hk0] at c0
      have hspot : spot = none := by simpa [Addr.add] using World.cell?_spot c0
      subst hspot
      have hlenl : ((List.range len).map S).length = len := by simp
      have hcell : ∀ j u, (((List.range len).map S).flatMap cells)[j]? = some u → w.cell? ⟨b, off + j, none⟩ = some u := by
        intro j u hu
        have hj : j < len * k := by
          have := (List.getElem?_eq_some_iff.1 hu).1
          rwa [flat_len cells k hlen, hlenl] at this
        have hf9 : j % k < k := Nat.mod_lt _ hk
        have hi : j / k < len := Nat.div_lt_of_lt_mul (by rwa [Nat.mul_comm])
        have e : j = j / k * k + j % k := by rw [Nat.mul_comm]; exact (Nat.div_add_mod j k).symm
        rw [e, flat_get cells k hlen _ (j / k) (j % k) hf9 (S (j / k)) (by simp [hi])] at hu
        have h1 := (World.cells?_some (hS (j / k) (by omega)).1).2.2 (j % k) hf9
        rw [add_add, add_plain, ← e] at h1
        exact h1.trans hu
      refine ⟨(List.range len).map S, .inl ?_, fun s hs => ?_⟩
      · rw [hlenl]
        refine ⟨by rw [flat_len cells k hlen, hlenl], by omega, .inr ⟨b, off, m, rfl, hl, hm, ?_, hcell⟩⟩
        rw [add_add, add_plain] at c0
        exact World.block_lt_of_cell? _ _ c0
      · obtain ⟨i, hi, rfl⟩ := List.mem_map.1 hs
        exact (hS i (by have := List.mem_range.1 hi; omega)).2
    · have hl0 : len = 0 := by omega
      subst hl0
      exact ⟨[], .inr ⟨⟨_, _, rfl⟩, rfl, rfl⟩, fun s hs => by cases hs⟩

theorem maxLen_eq : maxLen = 9223372036854775807 := by decide
theorem le_max {s : St} (h : s.fits) : s.le 9223372036854775807 := by have := h.1; rwa [maxLen_eq] at this
theorem rle_max {r : Rl} (h : r.le maxLen) : r.le 9223372036854775807 := by rwa [maxLen_eq] at h
instance : Inhabited Rl := ⟨noR⟩
theorem open_stsC {fuel : Nat} {c : Value} {y : DataW H × List MemPlace} (hf : DataW.trod enc Tryz.prog w base (fun _ => true) held fuel 22 [c] = some y) :
    ∃ l : List St, SlA w 9 c l.length (l.flatMap St.cells) ∧ allLe l 9223372036854775807 :=
  open_rowOf St.cells 9 (by decide) St.cells_len Tryz.underlying22 (by kernel_rfl) (fun s => s.le 9223372036854775807)
    (fun _ _ _ h => by obtain ⟨s, e, _, hs⟩ := trod_stmt h; exact ⟨s, e, le_max hs⟩) hf
theorem open_rls {fuel : Nat} {c : Value} {y : DataW H × List MemPlace} (hf : DataW.trod enc Tryz.prog w base (fun _ => true) held fuel 23 [c] = some y) :
    ∃ l : List Rl, SlA w 2 c l.length (l.flatMap Rl.cells) ∧ ∀ x ∈ l, x.le 9223372036854775807 :=
  open_rowOf Rl.cells 2 (by decide) Rl.cells_len Tryz.underlying23 (by kernel_rfl) (fun s => s.le 9223372036854775807)
    (fun _ _ _ h => by obtain ⟨s, e, _, hs⟩ := trod_role h; exact ⟨s, e, rle_max hs⟩) hf
theorem strs_flat (l : List ByteArray) : (l.flatMap fun s => [Value.string s]) = strs l := by
  induction l with
  | nil => rfl
  | cons a r ih => rw [List.flatMap_cons, ih]; rfl
theorem open_strsC {fuel : Nat} {c : Value} {y : DataW H × List MemPlace} (hf : DataW.trod enc Tryz.prog w base (fun _ => true) held fuel 38 [c] = some y) :
    ∃ l : List ByteArray, SlA w 1 c l.length (strs l) ∧ ∀ x ∈ l, x.size ≤ 9223372036854775807 := by
  obtain ⟨l, h1, h2⟩ := open_rowOf (fun s : ByteArray => [Value.string s]) 1 (by decide) (fun _ => rfl) Tryz.underlying38 (by kernel_rfl) (fun s => s.size ≤ 9223372036854775807)
    (fun _ cs _ h => by obtain ⟨s, e, _, hs⟩ := DataW.trod_string Tryz.underlying9 h; exact ⟨s, e, by rwa [maxLen_eq] at hs⟩) hf
  exact ⟨l, by rwa [strs_flat] at h1, h2⟩

theorem six_of {cs : List Value} (h : cs.length = 6) : ∃ a b c d e f, cs = [a, b, c, d, e, f] := by
  match cs, h with
  | [a, b, c, d, e, f], _ => exact ⟨a, b, c, d, e, f, rfl⟩
theorem trod_query {fuel : Nat} {cs : List Value} {x : DataW H × List MemPlace} (h : DataW.trod enc Tryz.prog w base (fun _ => true) held fuel 71 cs = some x) : ∃ q : Qv, cs = q.cells ∧ q.ok w := by
  obtain ⟨xs, n, _, rfl, hl, hlen, hf⟩ := DataW.trod_struct Tryz.underlying71 h
  have hc : Tryz.prog.cellsOf 71 = 6 := by kernel_rfl
  have hr : Tryz.prog.cellsOf 28 = 2 := by kernel_rfl
  have hi : Tryz.prog.cellsOf 3 = 1 := by kernel_rfl
  have hs : Tryz.prog.cellsOf 38 = 1 := by kernel_rfl
  rw [hc] at hl
  obtain ⟨c0, c1, c2, c3, c4, c5, rfl⟩ := six_of hl
  have f0 : DataW.trod enc Tryz.prog w base (fun _ => true) held n 3 [c0] = xs[0]? := by simpa [hi] using hf 0 _ rfl
  have f1 : DataW.trod enc Tryz.prog w base (fun _ => true) held n 28 [c1, c2] = xs[1]? := by simpa [hr] using hf 1 _ rfl
  have f2 : DataW.trod enc Tryz.prog w base (fun _ => true) held n 28 [c3, c4] = xs[2]? := by simpa [hr] using hf 2 _ rfl
  have f3 : DataW.trod enc Tryz.prog w base (fun _ => true) held n 38 [c5] = xs[3]? := by simpa [hs] using hf 3 _ rfl
  match xs, hlen with
  | [y0, y1, y2, y3], _ =>
    simp only [List.getElem?_cons_zero, List.getElem?_cons_succ] at f0 f1 f2 f3
    obtain ⟨k, e0, _, _⟩ := DataW.trod_int Tryz.underlying3 f0
    obtain ⟨r1, e1, _, l1⟩ := trod_role f1
    obtain ⟨r2, e2, _, l2⟩ := trod_role f2
    obtain ⟨ss, s3, l3⟩ := open_strsC f3
    simp only [Rl.cells, List.cons.injEq, and_true] at e0 e1 e2
    obtain ⟨rfl, rfl⟩ := e1
    obtain ⟨rfl, rfl⟩ := e2
    subst e0
    exact ⟨⟨k, r1, r2, c5⟩, rfl, rle_max l1, rle_max l2, ss, s3, l3⟩
theorem open_qs {fuel : Nat} {c : Value} {y : DataW H × List MemPlace} (hf : DataW.trod enc Tryz.prog w base (fun _ => true) held fuel 24 [c] = some y) :
    ∃ l : List Qv, SlA w 6 c l.length (l.flatMap Qv.cells) ∧ ∀ x ∈ l, x.ok w :=
  open_rowOf Qv.cells 6 (by decide) Qv.cells_len Tryz.underlying24 (by kernel_rfl) (fun q => q.ok w) (fun _ _ _ h => trod_query h) hf
theorem four_of {cs : List Value} (h : cs.length = 4) : ∃ a b c d, cs = [a, b, c, d] := by
  match cs, h with
  | [a, b, c, d], _ => exact ⟨a, b, c, d, rfl⟩
set_option maxRecDepth 100000 in
theorem open_pol {r : Reach} {b0 : Nat} {v : Value} {d : DataW H} {ps : List MemPlace} (hval : Value.okWide Tryz.prog w r b0 26 v) (hd : DataW.Trod enc Tryz.prog w base (fun _ => true) held 26 v d ps) :
    ∃ v0 v1 v2 v3 l g h qs, v = pv v0 v1 v2 v3 ∧ PolAt w v0 v1 v2 v3 l g h qs := by
  obtain ⟨cs, rfl, _⟩ := okWide_struct Tryz.underlying26 hval
  obtain ⟨fuel, hf⟩ := hd
  obtain ⟨xs, n, _, _, hl, hlen, hf'⟩ := DataW.trod_struct Tryz.underlying26 hf
  have hc : Tryz.prog.cellsOf 26 = 4 := by kernel_rfl
  have h0 : Tryz.prog.cellsOf 22 = 1 := by kernel_rfl
  have h1 : Tryz.prog.cellsOf 23 = 1 := by kernel_rfl
  have h2 : Tryz.prog.cellsOf 24 = 1 := by kernel_rfl
  rw [hc] at hl
  obtain ⟨c0, c1, c2, c3, hcs⟩ := four_of hl
  rw [hcs] at hf'
  have f0 : DataW.trod enc Tryz.prog w base (fun _ => true) held n 22 [c0] = xs[0]? := by simpa [h0] using hf' 0 _ rfl
  have f1 : DataW.trod enc Tryz.prog w base (fun _ => true) held n 23 [c1] = xs[1]? := by simpa [h1] using hf' 1 _ rfl
  have f2 : DataW.trod enc Tryz.prog w base (fun _ => true) held n 23 [c2] = xs[2]? := by simpa [h1] using hf' 2 _ rfl
  have f3 : DataW.trod enc Tryz.prog w base (fun _ => true) held n 24 [c3] = xs[3]? := by simpa [h2] using hf' 3 _ rfl
  match xs, hlen with
  | [y0, y1, y2, y3], _ =>
    simp only [List.getElem?_cons_zero, List.getElem?_cons_succ] at f0 f1 f2 f3
    obtain ⟨l, s0, l0⟩ := open_stsC f0
    obtain ⟨g, s1, l1⟩ := open_rls f1
    obtain ⟨h, s2, l2⟩ := open_rls f2
    obtain ⟨qs, s3, l3⟩ := open_qs f3
    refine ⟨c0, c1, c2, c3, l, g, h, qs, ?_, ⟨s0, s1, s2, s3, l0, l1, l2, l3⟩⟩
    obtain ⟨cl⟩ := cs
    simp only [Value.cells] at hcs
    have : cl = [c0, c1, c2, c3] := by simpa using hcs
    rw [this]
end
end Go.Proofs.YtnnieegddbcfcaaGreatDoor
namespace Go.Proofs.YtnnieegddbcfcaaGreatDoor
open Go.ChangeShapes Go.WideShapes Go.ChangeAt Go.RowKit

def bruijnL : List (String × DataW Unit) := [("math/bits.deBruijn64tab", Rows.laid_math_bits_deBruijn64tab)]
theorem bruijn_tab : (Rows.laid_math_bits_deBruijn64tab : DataW Unit) = Lib.tabData .u8 (Lib.deBruijn64tab.map fun (n : Nat) => (n : Int)) := by rfl
noncomputable def laidWorld (os : Os) : World := World.laidAll Tryz.prog os bruijnL
theorem laid_met (os : Os) (args : Array Value) : laidMet Tryz.prog bruijnL ((laidWorld os).forCall (fun _ _ => 0) ⟨#[], args, []⟩).memory := laidMet_laidAll args (by kernel_rfl) (by kernel_rfl)
theorem tb_of_laid {W : World} (h : laidMet Tryz.prog bruijnL W) : TB W := by
  unfold bruijnL at h
  rw [bruijn_tab] at h
  have ht := Lib.tabIs_of_head (t := 188) (e := 5) (n := 64) (g := 0) (by kernel_rfl) (by kernel_rfl) Tryz.underlying188 Tryz.underlying5 (by kernel_rfl) (by kernel_rfl) h
  intro j hj
  have := ht.cell (g := 0) (by kernel_rfl) j (by rw [List.length_map]; exact hj)
  rw [this, List.getD_eq_getElem?_getD, List.getElem?_map, List.getD_eq_getElem?_getD, List.getElem?_eq_getElem hj]
  rfl
theorem ownK : ownKnob Tryz.prog.godebug = none := by kernel_rfl
section
variable {H : Type} {enc : TypeId × Value → H} {w : World} {base b0 : Nat} {held : Bool} {r : Reach} {v : Value} {d : DataW H} {ps : List MemPlace}
set_option maxRecDepth 100000 in
theorem open_role (hval : Value.okWide Tryz.prog w r b0 28 v) (hd : DataW.Trod enc Tryz.prog w base (fun _ => true) held 28 v d ps) : ∃ x : Rl, v = rv x ∧ x.le 9223372036854775807 := by
  obtain ⟨cs, rfl, _⟩ := okWide_struct Tryz.underlying28 hval
  obtain ⟨fuel, hf⟩ := hd
  obtain ⟨s, h, _, hs⟩ := trod_role hf
  refine ⟨s, ?_, rle_max hs⟩
  obtain ⟨l⟩ := cs
  simp only [Value.cells] at h
  rw [show l = s.cells from by simpa using h]; rfl
end
end Go.Proofs.YtnnieegddbcfcaaGreatDoor
