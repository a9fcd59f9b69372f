/- names.All, query.Prins, policy.Prins, policy.Names, to the letter (printed by gen_polprins.py). -/
import Derived.Test.YtomhekohcadijaaGreatDoorPartRF23
import Derived.Test.YtomhekohcadijaaGreatDoorPartRF17
namespace Go.Proofs.YtomhekohcadijaaGreatDoor
open Go.RowKit Go.Shelf

theorem tab_All (b : Nat) (l : List ByteArray) (w : World) (h : TabAt w b l) (hl : l.length ≤ 100000) :
    Calls Tryz.prog 216 #[.pointer (some ⟨b, 0, none⟩)] w fun e w' => ∃ v, e = .returned v ∧ w'.ownsRow w.heap.size 9 1 v l.length (strs l) ∧ Below w.heap.size w w' := by
  obtain ⟨v, h1, h2, h3⟩ := h
  have CL := Lib.hid (str_CloneO v l w h2.a hl)
  obtain ⟨a, c, rfl⟩ := h2.form
  clear h2
  go_enter Tryz.func216, Tryz.ntmps216
  go_wp2_with fail
  refine CL.out.mono ?_
  rintro e w1 ⟨v1, rfl, ho, hb⟩
  have HO := Lib.hid ho
  have HB := Lib.hid hb
  clear ho hb CL h1 h3
  go_wp2
  go_ret
  exact ⟨_, rfl, HO.out, HB.out⟩
theorem query_Prins (q : Qv) (us : List ByteArray) (w : World) (h : SlA w 1 q.w us.length (strs us)) (hl : us.length ≤ 100000) :
    Calls Tryz.prog 214 #[qv q] w fun e w' => ∃ v, e = .returned v ∧ SlA w' 1 v us.length (strs us) ∧ Below w.heap.size w w' := by
  have CL := Lib.hid (fun W (hb : Below w.heap.size w W) => str_CloneO q.w us W (h.below hb) hl)
  obtain ⟨a, c, hw⟩ := h.form
  obtain ⟨xk, ⟨x1, x2⟩, ⟨x3, x4⟩, xw⟩ := q
  dsimp only at hw CL
  subst hw
  have HB0 := Lib.hid (show Below w.heap.size w (w.alloc (.cells #[.int .i64 xk, .string x1, .string x2, .string x3, .string x4, .slice a us.length c] 83)) from (Below.refl _ _).alloc (Nat.le_refl _) _)
  clear h
  go_enter Tryz.func214, Tryz.ntmps214
  go_wp2_with fail
  refine (CL.out _ HB0.out).mono ?_
  rintro e w1 ⟨v1, rfl, ho, hb⟩
  have HO := Lib.hid (Sl.of_own ho).a
  have HB := Lib.hid (HB0.out.trans (hb.mono HB0.out.size))
  clear ho hb CL
  go_wp2
  go_ret
  exact ⟨_, rfl, HO.out, HB.out⟩
theorem new_congr {l m : List ByteArray} (h : ∀ x, x ∈ l ↔ x ∈ m) : newB l = newB m :=
  asc_uniqueB _ _ (new_asc l) (new_asc m) (fun x => by rw [new_mem, new_mem]; exact h x)
theorem roles_mem (l : List St) (g h : List Rl) (qs : List Qv) (x : Rl) : x ∈ polRoles l g h qs ↔ x ∈ allRoles l g h qs := by
  unfold polRoles allRoles
  simp only [List.mem_append]
  constructor
  · rintro (((h1 | h1) | h1) | h1)
    · exact .inl (.inl (.inr h1))
    · exact .inl (.inr h1)
    · exact .inl (.inl (.inl h1))
    · exact .inr h1
  · rintro (((h1 | h1) | h1) | h1)
    · exact .inl (.inr h1)
    · exact .inl (.inl (.inl h1))
    · exact .inl (.inl (.inr h1))
    · exact .inr h1
theorem prins_congr (l : List St) (g h : List Rl) (qs : List Qv) (F : Qv → List ByteArray) : newB ((polRoles l g h qs).map Rl.o ++ l.flatMap whoS ++ qs.flatMap F) = newB (allPrins l g h qs F) :=
  new_congr (fun x => by unfold allPrins; simp only [List.mem_append, List.mem_map, roles_mem])
theorem names_congr (l : List St) (g h : List Rl) (qs : List Qv) : newB ((polRoles l g h qs).map Rl.n ++ l.flatMap viaS) = newB (allNames l g h qs) :=
  new_congr (fun x => by unfold allNames; simp only [List.mem_append, List.mem_map, roles_mem])
theorem push_txts {wA wr w3 : World} {vo : Value} {n m : Nat} {xs ms : List ByteArray} {a' : Option Addr} {cap' : Nat} (hb : Below wA.heap.size wA wr) (hown : wr.ownsRow wA.heap.size 9 1 vo n (strs xs))
    (h : w3.ownsRow wA.heap.size 9 1 (.slice a' (n + m) cap') (n + m) (strs xs ++ strs ms)) (hg : wr.grownBy w3 vo.ownBlock) :
    w3.ownsRow wA.heap.size 9 1 (.slice a' (n + m) cap') (n + m) (strs (xs ++ ms)) ∧ Below wA.heap.size wA w3 :=
  ⟨by rw [strs_app]; exact h, below_own hb hown hg hb.size (Nat.le_refl _)⟩
set_option maxRecDepth 100000 in
set_option maxHeartbeats 8000000 in
theorem policy_Prins (v0 v1 v2 v3 : Value) (l : List St) (g h : List Rl) (qs : List Qv) (w : World) (hp : PolAt w v0 v1 v2 v3 l g h qs) (hl : l.length ≤ 100) (hg : g.length ≤ 100) (hh : h.length ≤ 100) (hq : qs.length ≤ 100) (F : Qv → List ByteArray) (hF : WhoF w qs F) :
    Calls Tryz.prog 148 #[pv v0 v1 v2 v3] w fun e w' => ∃ v, e = .returned v ∧ w'.ownsRow w.heap.size 9 1 v (newB (allPrins l g h qs F)).length (strs (newB (allPrins l g h qs F))) ∧ (newB (allPrins l g h qs F)).length ≤ 6000 ∧ Below w.heap.size w w' := by
  have HP := Lib.hid hp
  have RO := Lib.hid (fun W (hb : Below w.heap.size w W) => policy_roles v0 v1 v2 v3 l g h qs W (hp.below hb) hl hg hh hq)
  have HFF := Lib.hid hF
  have RES := Lib.hid (prins_congr l g h qs F)
  obtain ⟨a0, c0, rfl⟩ := hp.rs.form
  obtain ⟨a1, c1, rfl⟩ := hp.rg.form
  obtain ⟨a2, c2, rfl⟩ := hp.rh.form
  obtain ⟨a3, c3, rfl⟩ := hp.rq.form
  have HT := Lib.hid (show OneAt w #[.slice a0 l.length c0, .slice a1 g.length c1, .slice a2 h.length c2, .slice a3 qs.length c3] (w.alloc (.cells #[.slice a0 l.length c0, .slice a1 g.length c1, .slice a2 h.length c2, .slice a3 qs.length c3] 26)) from ⟨Blk.new w _ _, (Below.refl _ _).alloc (Nat.le_refl _) _⟩)
  clear hp hF
  generalize polRoles l g h qs = rs at RO RES
  go_enter Tryz.func148, Tryz.ntmps148
  go_wp2_with fail
  refine (RO.out _ HT.out.low).mono ?_
  rintro e w1 ⟨vr, rfl, hr, hrl, hb⟩
  have HT := Lib.hid (HT.out.later hb)
  have HR := Lib.hid hr
  obtain ⟨ro, rc, rfl⟩ := hr.form
  clear hb hr RO
  obtain ⟨wA, hwA⟩ : ∃ wA, wA = w1 := ⟨_, rfl⟩
  subst hwA
  have HTA := Lib.hid HT.out
  go_wp2_with fail
  go_loopw [3, 13] (fun vo i wr => ∃ (k : Nat) (xs : List ByteArray), k ≤ rs.length ∧ i = .int .i64 k ∧ Hid (xs.length ≤ k) ∧ Hid (Below wA.heap.size wA wr) ∧ Hid (wr.ownsRow wA.heap.size 9 1 vo xs.length (strs xs)) ∧ Hid (xs = (rs.take k).map Rl.o)) (fun _ i _ => rs.length - (intOf i).toNat)
  case atStart => exact ⟨0, [], by omega, rfl, Lib.hid (by simp), Lib.hid (Below.refl _ _), Lib.hid (World.ownsRow_nil _ _ _ _), Lib.hid (by simp)⟩
  case round =>
    obtain ⟨k, xs, hk, rfl, HC, HB, HO, HE⟩ := hrel
    obtain ⟨oo, oc, rfl⟩ := own_form HO.out
    have hxs := HC.out
    by_cases hlt : k < rs.length
    · obtain ⟨b1, o1, e1, he1, hc1, hm1', hb1, hx1⟩ := HR.out.pos (by omega)
      simp only [Value.slice.injEq, true_and] at he1
      obtain ⟨rfl, rfl⟩ := he1
      obtain ⟨p0, p1⟩ := rl_cell (w := wr) (fun j u hu => (HB.out.cell (p := ⟨b1, o1 + j, none⟩) hb1).trans (hx1 j u hu)) k hlt
      have hbr : b1 < wr.heap.size := Nat.lt_of_lt_of_le hb1 HB.out.size
      have HF := Lib.hid (take_snoc hlt)
      clear hx1
      generalize rs[k] = x at *
      obtain ⟨x1, x2⟩ := x
      have hown := HO.out
      go_wp2_with (at_builtin; refine halt_ ?_)
      unfold Halt_
      refine app_own Tryz.underlying27 str_info rfl (by decide) (by decide) rfl _ _ rfl wA.heap.size rfl ((hown.alloc _).alloc _) [.string x1] rfl (heap_new2 _ _ _) rfl (str1 _) ?_ ?_ ?_
      · omega
      · have := HB.out.size; simp; omega
      intro a' cap' w3 hown' hgrow
      obtain ⟨q1, q2⟩ := own_push (x := x1) (HB.out.alloc HB.out.size _) (hown.alloc _) hown' hgrow
      have HO1 := Lib.hid q1
      have HB1 := Lib.hid q2
      clear hown hown' hgrow q1 q2
      go_wp2_with fail
      exact ⟨⟨k + 1, xs ++ [x1], by omega, by go_num, Lib.hid (by rw [List.length_append]; exact Nat.succ_le_succ hxs), HB1, HO1, Lib.hid (by rw [HF.out, List.map_append, HE.out]; rfl)⟩, by simp [intOf]; omega⟩
    · have HT := Lib.hid (HT.out.later HB.out)
      have hn0 : xs.length ≤ 1000 + 0 := by omega
      have HE0 := Lib.hid (show xs = rs.map Rl.o by rw [HE.out, List.take_of_length_le (show rs.length ≤ k by omega)])
      obtain ⟨ca, fa, za⟩ := HT.out.a
      clear hxs HC hk HE HR
      go_wp2_with fail
      clear ca fa za
      go_loopw [3, 26] (fun vo i wr => ∃ (k : Nat) (xs : List ByteArray), k ≤ l.length ∧ i = .int .i64 k ∧ Hid (xs.length ≤ 1000 + k) ∧ Hid (Below wA.heap.size wA wr) ∧ Hid (wr.ownsRow wA.heap.size 9 1 vo xs.length (strs xs)) ∧ Hid (xs = rs.map Rl.o ++ (l.take k).flatMap whoS)) (fun _ i _ => l.length - (intOf i).toNat)
      case atStart => exact ⟨0, _, by omega, rfl, Lib.hid hn0, HB, HO, Lib.hid (by rw [HE0.out]; simp)⟩
      case round =>
        clear HB HO hn0 HE0 HT
        obtain ⟨k, xs, hk, rfl, HC, HB, HO, HE⟩ := hrel
        obtain ⟨oo, oc, rfl⟩ := own_form HO.out
        have hxs := HC.out
        by_cases hlt : k < l.length
        · obtain ⟨b1, o1, e1, he1, hc1, hm1', hb1, hx1⟩ := HP.out.rs.pos (by omega)
          simp only [Value.slice.injEq, true_and] at he1
          obtain ⟨rfl, rfl⟩ := he1
          have hlow := HTA.out.low.trans (HB.out.mono HTA.out.low.size)
          obtain ⟨p0, p1, p2, p3, p4, p5, p6, p7, p8⟩ := st_cell (w := wr) (fun j u hu => (hlow.cell (p := ⟨b1, o1 + j, none⟩) hb1).trans (hx1 j u hu)) k hlt
          have hbr : b1 < wr.heap.size := Nat.lt_of_lt_of_le hb1 hlow.size
          have HF := Lib.hid (flat_snocF whoS hlt)
          clear hx1 hlow
          generalize l[k] = x at *
          obtain ⟨xk, ⟨x1, x2⟩, xw, ⟨x3, x4⟩, ⟨x5, x6⟩, xv⟩ := x
          by_cases hkk : xk = 1
          · have d1 : (xk == 1) = true := by simp [hkk]
            have HK := Lib.hid (show whoS ⟨xk, ⟨x1, x2⟩, xw, ⟨x3, x4⟩, ⟨x5, x6⟩, xv⟩ = [xw] from if_pos hkk)
            clear hkk
            have hown := HO.out
            go_wp2_with (at_builtin; refine halt_ ?_)
            unfold Halt_
            refine app_own Tryz.underlying27 str_info rfl (by decide) (by decide) rfl _ _ rfl wA.heap.size rfl ((hown.alloc _).alloc _) [.string xw] rfl (heap_new2 _ _ _) rfl (str1 _) ?_ ?_ ?_
            · omega
            · have := HB.out.size; simp; omega
            intro a' cap' w3 hown' hgrow
            obtain ⟨q1, q2⟩ := own_push (x := xw) (HB.out.alloc HB.out.size _) (hown.alloc _) hown' hgrow
            have HO1 := Lib.hid q1
            have HB1 := Lib.hid q2
            clear hown hown' hgrow q1 q2
            go_wp2_with fail
            exact ⟨⟨k + 1, xs ++ [xw], by omega, by go_num, Lib.hid (by rw [List.length_append]; exact Nat.succ_le_succ hxs), HB1, HO1, Lib.hid (by rw [HF.out, HK.out, HE.out, List.append_assoc])⟩, by simp [intOf]; omega⟩
          · have d1 : (xk == 1) = false := by simp [hkk]
            have HK := Lib.hid (show whoS ⟨xk, ⟨x1, x2⟩, xw, ⟨x3, x4⟩, ⟨x5, x6⟩, xv⟩ = [] from if_neg hkk)
            clear hkk
            have HO1 := Lib.hid (HO.out.alloc (.cells #[.int .i64 xk, .string x1, .string x2, .string xw, .string x3, .string x4, .string x5, .string x6, .string xv] 80))
            have HB1 := Lib.hid (HB.out.alloc HB.out.size (.cells #[.int .i64 xk, .string x1, .string x2, .string xw, .string x3, .string x4, .string x5, .string x6, .string xv] 80))
            go_wp2_with fail
            exact ⟨⟨k + 1, xs, by omega, by go_num, Lib.hid (by omega), HB1, HO1, Lib.hid (by rw [HF.out, HK.out, HE.out, List.append_nil])⟩, by simp [intOf]; omega⟩
        · have HT := Lib.hid (HTA.out.later HB.out)
          have hn0 : xs.length ≤ 1100 + 40 * 0 := by omega
          have HE0 := Lib.hid (show xs = rs.map Rl.o ++ l.flatMap whoS by rw [HE.out, List.take_of_length_le (show l.length ≤ k by omega)])
          obtain ⟨ca, fa, za⟩ := HT.out.a
          clear hxs HC hk HE
          go_wp2_with fail
          clear ca fa za
          go_loopw [3, 42] (fun vo i wr => ∃ (k : Nat) (xs : List ByteArray), k ≤ qs.length ∧ i = .int .i64 k ∧ Hid (xs.length ≤ 1100 + 40 * k) ∧ Hid (Below wA.heap.size wA wr) ∧ Hid (wr.ownsRow wA.heap.size 9 1 vo xs.length (strs xs)) ∧ Hid (xs = rs.map Rl.o ++ l.flatMap whoS ++ (qs.take k).flatMap F)) (fun _ i _ => qs.length - (intOf i).toNat)
          case atStart => exact ⟨0, _, by omega, rfl, Lib.hid hn0, HB, HO, Lib.hid (by rw [HE0.out]; simp)⟩
          case round =>
            clear HB HO hn0 HE0 HT
            obtain ⟨k, xs, hk, rfl, HC, HB, HO, HE⟩ := hrel
            obtain ⟨oo, oc, rfl⟩ := own_form HO.out
            have hxs := HC.out
            by_cases hlt : k < qs.length
            · obtain ⟨b1, o1, e1, he1, hc1, hm1', hb1, hx1⟩ := HP.out.rq.pos (by omega)
              simp only [Value.slice.injEq, true_and] at he1
              obtain ⟨rfl, rfl⟩ := he1
              have hlow := HTA.out.low.trans (HB.out.mono HTA.out.low.size)
              obtain ⟨p0, p1, p2, p3, p4, p5⟩ := q_cell (w := wr) (fun j u hu => (hlow.cell (p := ⟨b1, o1 + j, none⟩) hb1).trans (hx1 j u hu)) k hlt
              have hbr : b1 < wr.heap.size := Nat.lt_of_lt_of_le hb1 hlow.size
              have HF := Lib.hid (flat_snocF F hlt)
              obtain ⟨hu1, hu2⟩ := HFF.out _ (List.getElem_mem hlt)
              have QP := Lib.hid (fun W (hb : Below w.heap.size w W) => query_Prins qs[k] (F qs[k]) W (hu1.below hb) (by omega))
              have HLW := Lib.hid hlow
              generalize F qs[k] = us at hu1 hu2 HF QP
              obtain ⟨wo, wc, hw5⟩ := hu1.form
              clear hx1 hlow hu1
              generalize hnw : us.length = nw at hw5 hu2 QP
              have HNW := Lib.hid hnw
              clear hnw
              generalize qs[k] = x at *
              obtain ⟨xk, ⟨x1, x2⟩, ⟨x3, x4⟩, xw⟩ := x
              dsimp only at hw5
              subst hw5
              go_wp2_with fail
              refine (QP.out _ (HLW.out.alloc HLW.out.size _)).mono ?_
              rintro e w3 ⟨vz, rfl, hz, hb⟩
              have HO3 := Lib.hid (own_below (HO.out.alloc _) hb)
              have HB3 := Lib.hid ((HB.out.alloc HB.out.size _).trans (hb.mono (HB.out.alloc HB.out.size _).size))
              obtain ⟨zo, zc, rfl⟩ := hz.form
              have HZ := Lib.hid hz
              clear hz hb QP HLW
              go_wp2_with (at_builtin; refine halt_ ?_)
              unfold Halt_
              refine app_row Tryz.underlying27 str_info rfl (by decide) (by decide) rfl _ _ rfl wA.heap.size rfl HO3.out rfl HZ.out (strs_one _) (by omega) HB3.out.size ?_
              intro a' cap' w4 hown' hgrow
              obtain ⟨q1, q2⟩ := push_txts HB3.out HO3.out hown' hgrow
              have HO4 := Lib.hid (show w4.ownsRow wA.heap.size 9 1 (.slice a' (xs.length + nw) cap') (xs ++ us).length (strs (xs ++ us)) by rw [List.length_append, HNW.out]; exact q1)
              have HB4 := Lib.hid q2
              clear hown' hgrow q1 q2 HO3 HB3 HZ
              go_wp2_with fail
              exact ⟨⟨k + 1, xs ++ us, by omega, by go_num, Lib.hid (by rw [List.length_append, HNW.out]; omega), HB4, HO4, Lib.hid (by rw [HF.out, HE.out]; simp only [List.append_assoc])⟩, by simp [intOf]; omega⟩
            · have HXS := Lib.hid (show xs = rs.map Rl.o ++ l.flatMap whoS ++ qs.flatMap F by rw [HE.out, List.take_of_length_le (show qs.length ≤ k by omega)])
              have hxl : xs.length ≤ 6000 := by omega
              have NN := Lib.hid (names_New _ xs wr (Sl.of_own HO.out).a (by omega))
              rw [← HXS.out] at RES
              have hnl := new_len xs
              have HLW := Lib.hid (HTA.out.low.trans (HB.out.mono HTA.out.low.size))
              clear HC hk HE HO HXS
              go_wp2_with fail
              refine NN.out.mono ?_
              rintro e w4 ⟨b, rfl, ht, _, hb⟩
              have AL := Lib.hid (tab_All b (newB xs) w4 ht (by omega))
              have HLW := Lib.hid (HLW.out.trans (hb.mono HLW.out.size))
              clear ht hb NN
              go_wp2_with fail
              refine AL.out.mono ?_
              rintro e w5 ⟨v5, rfl, ho, hb⟩
              have HO5 := Lib.hid (own_base ho HLW.out.size)
              have HLW := Lib.hid (HLW.out.trans (hb.mono HLW.out.size))
              clear ho hb AL
              go_wp2
              go_ret
              exact ⟨_, rfl, by rw [← RES.out]; exact HO5.out, by rw [← RES.out]; omega, HLW.out⟩
set_option maxRecDepth 100000 in
set_option maxHeartbeats 8000000 in
theorem policy_Names (v0 v1 v2 v3 : Value) (l : List St) (g h : List Rl) (qs : List Qv) (w : World) (hp : PolAt w v0 v1 v2 v3 l g h qs) (hl : l.length ≤ 100) (hg : g.length ≤ 100) (hh : h.length ≤ 100) (hq : qs.length ≤ 100) :
    Calls Tryz.prog 149 #[pv v0 v1 v2 v3] w fun e w' => ∃ v, e = .returned v ∧ w'.ownsRow w.heap.size 9 1 v (newB (allNames l g h qs)).length (strs (newB (allNames l g h qs))) ∧ (newB (allNames l g h qs)).length ≤ 6000 ∧ Below w.heap.size w w' := by
  have HP := Lib.hid hp
  have RO := Lib.hid (fun W (hb : Below w.heap.size w W) => policy_roles v0 v1 v2 v3 l g h qs W (hp.below hb) hl hg hh hq)
  skip
  have RES := Lib.hid (names_congr l g h qs)
  obtain ⟨a0, c0, rfl⟩ := hp.rs.form
  obtain ⟨a1, c1, rfl⟩ := hp.rg.form
  obtain ⟨a2, c2, rfl⟩ := hp.rh.form
  obtain ⟨a3, c3, rfl⟩ := hp.rq.form
  have HT := Lib.hid (show OneAt w #[.slice a0 l.length c0, .slice a1 g.length c1, .slice a2 h.length c2, .slice a3 qs.length c3] (w.alloc (.cells #[.slice a0 l.length c0, .slice a1 g.length c1, .slice a2 h.length c2, .slice a3 qs.length c3] 26)) from ⟨Blk.new w _ _, (Below.refl _ _).alloc (Nat.le_refl _) _⟩)
  clear hp
  generalize polRoles l g h qs = rs at RO RES
  go_enter Tryz.func149, Tryz.ntmps149
  go_wp2_with fail
  refine (RO.out _ HT.out.low).mono ?_
  rintro e w1 ⟨vr, rfl, hr, hrl, hb⟩
  have HT := Lib.hid (HT.out.later hb)
  have HR := Lib.hid hr
  obtain ⟨ro, rc, rfl⟩ := hr.form
  clear hb hr RO
  obtain ⟨wA, hwA⟩ : ∃ wA, wA = w1 := ⟨_, rfl⟩
  subst hwA
  have HTA := Lib.hid HT.out
  go_wp2_with fail
  go_loopw [3, 11] (fun vo i wr => ∃ (k : Nat) (xs : List ByteArray), k ≤ rs.length ∧ i = .int .i64 k ∧ Hid (xs.length ≤ k) ∧ Hid (Below wA.heap.size wA wr) ∧ Hid (wr.ownsRow wA.heap.size 9 1 vo xs.length (strs xs)) ∧ Hid (xs = (rs.take k).map Rl.n)) (fun _ i _ => rs.length - (intOf i).toNat)
  case atStart => exact ⟨0, [], by omega, rfl, Lib.hid (by simp), Lib.hid (Below.refl _ _), Lib.hid (World.ownsRow_nil _ _ _ _), Lib.hid (by simp)⟩
  case round =>
    obtain ⟨k, xs, hk, rfl, HC, HB, HO, HE⟩ := hrel
    obtain ⟨oo, oc, rfl⟩ := own_form HO.out
    have hxs := HC.out
    by_cases hlt : k < rs.length
    · obtain ⟨b1, o1, e1, he1, hc1, hm1', hb1, hx1⟩ := HR.out.pos (by omega)
      simp only [Value.slice.injEq, true_and] at he1
      obtain ⟨rfl, rfl⟩ := he1
      obtain ⟨p0, p1⟩ := rl_cell (w := wr) (fun j u hu => (HB.out.cell (p := ⟨b1, o1 + j, none⟩) hb1).trans (hx1 j u hu)) k hlt
      have hbr : b1 < wr.heap.size := Nat.lt_of_lt_of_le hb1 HB.out.size
      have HF := Lib.hid (take_snoc hlt)
      clear hx1
      generalize rs[k] = x at *
      obtain ⟨x1, x2⟩ := x
      have hown := HO.out
      go_wp2_with (at_builtin; refine halt_ ?_)
      unfold Halt_
      refine app_own Tryz.underlying27 str_info rfl (by decide) (by decide) rfl _ _ rfl wA.heap.size rfl ((hown.alloc _).alloc _) [.string x2] rfl (heap_new2 _ _ _) rfl (str1 _) ?_ ?_ ?_
      · omega
      · have := HB.out.size; simp; omega
      intro a' cap' w3 hown' hgrow
      obtain ⟨q1, q2⟩ := own_push (x := x2) (HB.out.alloc HB.out.size _) (hown.alloc _) hown' hgrow
      have HO1 := Lib.hid q1
      have HB1 := Lib.hid q2
      clear hown hown' hgrow q1 q2
      go_wp2_with fail
      exact ⟨⟨k + 1, xs ++ [x2], by omega, by go_num, Lib.hid (by rw [List.length_append]; exact Nat.succ_le_succ hxs), HB1, HO1, Lib.hid (by rw [HF.out, List.map_append, HE.out]; rfl)⟩, by simp [intOf]; omega⟩
    · have HT := Lib.hid (HT.out.later HB.out)
      have hn0 : xs.length ≤ 1000 + 0 := by omega
      have HE0 := Lib.hid (show xs = rs.map Rl.n by rw [HE.out, List.take_of_length_le (show rs.length ≤ k by omega)])
      obtain ⟨ca, fa, za⟩ := HT.out.a
      clear hxs HC hk HE HR
      go_wp2_with fail
      clear ca fa za
      go_loopw [3, 24] (fun vo i wr => ∃ (k : Nat) (xs : List ByteArray), k ≤ l.length ∧ i = .int .i64 k ∧ Hid (xs.length ≤ 1000 + k) ∧ Hid (Below wA.heap.size wA wr) ∧ Hid (wr.ownsRow wA.heap.size 9 1 vo xs.length (strs xs)) ∧ Hid (xs = rs.map Rl.n ++ (l.take k).flatMap viaS)) (fun _ i _ => l.length - (intOf i).toNat)
      case atStart => exact ⟨0, _, by omega, rfl, Lib.hid hn0, HB, HO, Lib.hid (by rw [HE0.out]; simp)⟩
      case round =>
        clear HB HO hn0 HE0 HT
        obtain ⟨k, xs, hk, rfl, HC, HB, HO, HE⟩ := hrel
        obtain ⟨oo, oc, rfl⟩ := own_form HO.out
        have hxs := HC.out
        by_cases hlt : k < l.length
        · obtain ⟨b1, o1, e1, he1, hc1, hm1', hb1, hx1⟩ := HP.out.rs.pos (by omega)
          simp only [Value.slice.injEq, true_and] at he1
          obtain ⟨rfl, rfl⟩ := he1
          have hlow := HTA.out.low.trans (HB.out.mono HTA.out.low.size)
          obtain ⟨p0, p1, p2, p3, p4, p5, p6, p7, p8⟩ := st_cell (w := wr) (fun j u hu => (hlow.cell (p := ⟨b1, o1 + j, none⟩) hb1).trans (hx1 j u hu)) k hlt
          have hbr : b1 < wr.heap.size := Nat.lt_of_lt_of_le hb1 hlow.size
          have HF := Lib.hid (flat_snocF viaS hlt)
          clear hx1 hlow
          generalize l[k] = x at *
          obtain ⟨xk, ⟨x1, x2⟩, xw, ⟨x3, x4⟩, ⟨x5, x6⟩, xv⟩ := x
          by_cases hkk : xk = 3
          · have d1 : (xk == 3) = true := by simp [hkk]
            have HK := Lib.hid (show viaS ⟨xk, ⟨x1, x2⟩, xw, ⟨x3, x4⟩, ⟨x5, x6⟩, xv⟩ = [xv] from if_pos hkk)
            clear hkk
            have hown := HO.out
            go_wp2_with (at_builtin; refine halt_ ?_)
            unfold Halt_
            refine app_own Tryz.underlying27 str_info rfl (by decide) (by decide) rfl _ _ rfl wA.heap.size rfl ((hown.alloc _).alloc _) [.string xv] rfl (heap_new2 _ _ _) rfl (str1 _) ?_ ?_ ?_
            · omega
            · have := HB.out.size; simp; omega
            intro a' cap' w3 hown' hgrow
            obtain ⟨q1, q2⟩ := own_push (x := xv) (HB.out.alloc HB.out.size _) (hown.alloc _) hown' hgrow
            have HO1 := Lib.hid q1
            have HB1 := Lib.hid q2
            clear hown hown' hgrow q1 q2
            go_wp2_with fail
            exact ⟨⟨k + 1, xs ++ [xv], by omega, by go_num, Lib.hid (by rw [List.length_append]; exact Nat.succ_le_succ hxs), HB1, HO1, Lib.hid (by rw [HF.out, HK.out, HE.out, List.append_assoc])⟩, by simp [intOf]; omega⟩
          · have d1 : (xk == 3) = false := by simp [hkk]
            have HK := Lib.hid (show viaS ⟨xk, ⟨x1, x2⟩, xw, ⟨x3, x4⟩, ⟨x5, x6⟩, xv⟩ = [] from if_neg hkk)
            clear hkk
            have HO1 := Lib.hid (HO.out.alloc (.cells #[.int .i64 xk, .string x1, .string x2, .string xw, .string x3, .string x4, .string x5, .string x6, .string xv] 80))
            have HB1 := Lib.hid (HB.out.alloc HB.out.size (.cells #[.int .i64 xk, .string x1, .string x2, .string xw, .string x3, .string x4, .string x5, .string x6, .string xv] 80))
            go_wp2_with fail
            exact ⟨⟨k + 1, xs, by omega, by go_num, Lib.hid (by omega), HB1, HO1, Lib.hid (by rw [HF.out, HK.out, HE.out, List.append_nil])⟩, by simp [intOf]; omega⟩
        · have HXS := Lib.hid (show xs = rs.map Rl.n ++ l.flatMap viaS by rw [HE.out, List.take_of_length_le (show l.length ≤ k by omega)])
          have hxl : xs.length ≤ 6000 := by omega
          have NN := Lib.hid (names_New _ xs wr (Sl.of_own HO.out).a (by omega))
          rw [← HXS.out] at RES
          have hnl := new_len xs
          have HLW := Lib.hid (HTA.out.low.trans (HB.out.mono HTA.out.low.size))
          clear HC hk HE HO HXS
          go_wp2_with fail
          refine NN.out.mono ?_
          rintro e w4 ⟨b, rfl, ht, _, hb⟩
          have AL := Lib.hid (tab_All b (newB xs) w4 ht (by omega))
          have HLW := Lib.hid (HLW.out.trans (hb.mono HLW.out.size))
          clear ht hb NN
          go_wp2_with fail
          refine AL.out.mono ?_
          rintro e w5 ⟨v5, rfl, ho, hb⟩
          have HO5 := Lib.hid (own_base ho HLW.out.size)
          have HLW := Lib.hid (HLW.out.trans (hb.mono HLW.out.size))
          clear ho hb AL
          go_wp2
          go_ret
          exact ⟨_, rfl, by rw [← RES.out]; exact HO5.out, by rw [← RES.out]; omega, HLW.out⟩
end Go.Proofs.YtomhekohcadijaaGreatDoor
