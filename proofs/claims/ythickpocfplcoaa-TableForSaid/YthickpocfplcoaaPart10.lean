/- names.All, query.Prins, policy.Prins, policy.Names, to the letter (printed by gen_polprins.py). A store into a block of slices leaves all rows of other things as they were. table.Table.RoleAt. Two blocks of a call's own that stand whole. -/
import Derived.Test.YthickpocfplcoaaPart7
import Derived.Test.YthickpocfplcoaaPart9
import Derived.Test.YthickpocfplcoaaPart8
import Derived.Test.YthickpocfplcoaaPart3
import Derived.Test.YthickpocfplcoaaPart5
namespace Go.Proofs.Ythickpocfplcoaa
open Go.RowKit Go.Shelf

theorem tab_All (b : Nat) (l : List ByteArray) (w : World) (h : TabAt w b l) (hl : l.length ≤ 100000) :
    Calls Try.prog 30 #[.pointer (some ⟨b, 0, none⟩)] w fun e w' => ∃ v, e = .returned v ∧ w'.ownsRow w.heap.size 9 1 v l.length (strs l) ∧ Below w.heap.size w w' := by
  obtain ⟨v, h1, h2, h3⟩ := h
  have CL := Lib.hid (str_CloneO v l w h2.a hl)
  obtain ⟨a, c, rfl⟩ := h2.form
  clear h2
  go_enter Try.func30, Try.ntmps30
  go_wp2_with fail
  refine CL.out.mono ?_
  rintro e w1 ⟨v1, rfl, ho, hb⟩
  have HO := Lib.hid ho
  have HB := Lib.hid hb
  clear ho hb CL h1 h3
  go_wp2
  go_ret
  exact ⟨_, rfl, HO.out, HB.out⟩
theorem query_Prins (q : Qv) (us : List ByteArray) (w : World) (h : SlA w 1 q.w us.length (strs us)) (hl : us.length ≤ 100000) :
    Calls Try.prog 59 #[qv q] w fun e w' => ∃ v, e = .returned v ∧ SlA w' 1 v us.length (strs us) ∧ Below w.heap.size w w' := by
  have CL := Lib.hid (fun W (hb : Below w.heap.size w W) => str_CloneO q.w us W (h.below hb) hl)
  obtain ⟨a, c, hw⟩ := h.form
  obtain ⟨xk, ⟨x1, x2⟩, ⟨x3, x4⟩, xw⟩ := q
  dsimp only at hw CL
  subst hw
  have HB0 := Lib.hid (show Below w.heap.size w (w.alloc (.cells #[.int .i64 xk, .string x1, .string x2, .string x3, .string x4, .slice a us.length c] 80)) from (Below.refl _ _).alloc (Nat.le_refl _) _)
  clear h
  go_enter Try.func59, Try.ntmps59
  go_wp2_with fail
  refine (CL.out _ HB0.out).mono ?_
  rintro e w1 ⟨v1, rfl, ho, hb⟩
  have HO := Lib.hid (Sl.of_own ho).a
  have HB := Lib.hid (HB0.out.trans (hb.mono HB0.out.size))
  clear ho hb CL
  go_wp2
  go_ret
  exact ⟨_, rfl, HO.out, HB.out⟩
theorem new_congr {l m : List ByteArray} (h : ∀ x, x ∈ l ↔ x ∈ m) : newB l = newB m :=
  asc_uniqueB _ _ (new_asc l) (new_asc m) (fun x => by rw [new_mem, new_mem]; exact h x)
theorem roles_mem (l : List St) (g h : List Rl) (qs : List Qv) (x : Rl) : x ∈ polRoles l g h qs ↔ x ∈ allRoles l g h qs := by
  unfold polRoles allRoles
  simp only [List.mem_append]
  constructor
  · rintro (((h1 | h1) | h1) | h1)
    · exact .inl (.inl (.inr h1))
    · exact .inl (.inr h1)
    · exact .inl (.inl (.inl h1))
    · exact .inr h1
  · rintro (((h1 | h1) | h1) | h1)
    · exact .inl (.inr h1)
    · exact .inl (.inl (.inl h1))
    · exact .inl (.inl (.inr h1))
    · exact .inr h1
theorem prins_congr (l : List St) (g h : List Rl) (qs : List Qv) (F : Qv → List ByteArray) : newB ((polRoles l g h qs).map Rl.o ++ l.flatMap whoS ++ qs.flatMap F) = newB (allPrins l g h qs F) :=
  new_congr (fun x => by unfold allPrins; simp only [List.mem_append, List.mem_map, roles_mem])
theorem names_congr (l : List St) (g h : List Rl) (qs : List Qv) : newB ((polRoles l g h qs).map Rl.n ++ l.flatMap viaS) = newB (allNames l g h qs) :=
  new_congr (fun x => by unfold allNames; simp only [List.mem_append, List.mem_map, roles_mem])
theorem push_txts {wA wr w3 : World} {vo : Value} {n m : Nat} {xs ms : List ByteArray} {a' : Option Addr} {cap' : Nat} (hb : Below wA.heap.size wA wr) (hown : wr.ownsRow wA.heap.size 9 1 vo n (strs xs))
    (h : w3.ownsRow wA.heap.size 9 1 (.slice a' (n + m) cap') (n + m) (strs xs ++ strs ms)) (hg : wr.grownBy w3 vo.ownBlock) :
    w3.ownsRow wA.heap.size 9 1 (.slice a' (n + m) cap') (n + m) (strs (xs ++ ms)) ∧ Below wA.heap.size wA w3 :=
  ⟨by rw [strs_app]; exact h, below_own hb hown hg hb.size (Nat.le_refl _)⟩
set_option maxRecDepth 100000 in
set_option maxHeartbeats 8000000 in
theorem policy_Prins (v0 v1 v2 v3 : Value) (l : List St) (g h : List Rl) (qs : List Qv) (w : World) (hp : PolAt w v0 v1 v2 v3 l g h qs) (hl : l.length ≤ 100) (hg : g.length ≤ 100) (hh : h.length ≤ 100) (hq : qs.length ≤ 100) (F : Qv → List ByteArray) (hF : WhoF w qs F) :
    Calls Try.prog 45 #[pv v0 v1 v2 v3] w fun e w' => ∃ v, e = .returned v ∧ w'.ownsRow w.heap.size 9 1 v (newB (allPrins l g h qs F)).length (strs (newB (allPrins l g h qs F))) ∧ (newB (allPrins l g h qs F)).length ≤ 6000 ∧ Below w.heap.size w w' := by
  have HP := Lib.hid hp
  have RO := Lib.hid (fun W (hb : Below w.heap.size w W) => policy_roles v0 v1 v2 v3 l g h qs W (hp.below hb) hl hg hh hq)
  have HFF := Lib.hid hF
  have RES := Lib.hid (prins_congr l g h qs F)
  obtain ⟨a0, c0, rfl⟩ := hp.rs.form
  obtain ⟨a1, c1, rfl⟩ := hp.rg.form
  obtain ⟨a2, c2, rfl⟩ := hp.rh.form
  obtain ⟨a3, c3, rfl⟩ := hp.rq.form
  have HT := Lib.hid (show OneAt w #[.slice a0 l.length c0, .slice a1 g.length c1, .slice a2 h.length c2, .slice a3 qs.length c3] (w.alloc (.cells #[.slice a0 l.length c0, .slice a1 g.length c1, .slice a2 h.length c2, .slice a3 qs.length c3] 55)) from ⟨Blk.new w _ _, (Below.refl _ _).alloc (Nat.le_refl _) _⟩)
  clear hp hF
  generalize polRoles l g h qs = rs at RO RES
  go_enter Try.func45, Try.ntmps45
  go_wp2_with fail
  refine (RO.out _ HT.out.low).mono ?_
  rintro e w1 ⟨vr, rfl, hr, hrl, hb⟩
  have HT := Lib.hid (HT.out.later hb)
  have HR := Lib.hid hr
  obtain ⟨ro, rc, rfl⟩ := hr.form
  clear hb hr RO
  obtain ⟨wA, hwA⟩ : ∃ wA, wA = w1 := ⟨_, rfl⟩
  subst hwA
  have HTA := Lib.hid HT.out
  go_wp2_with fail
  go_loopw [3, 13] (fun vo i wr => ∃ (k : Nat) (xs : List ByteArray), k ≤ rs.length ∧ i = .int .i64 k ∧ Hid (xs.length ≤ k) ∧ Hid (Below wA.heap.size wA wr) ∧ Hid (wr.ownsRow wA.heap.size 9 1 vo xs.length (strs xs)) ∧ Hid (xs = (rs.take k).map Rl.o)) (fun _ i _ => rs.length - (intOf i).toNat)
  case atStart => exact ⟨0, [], by omega, rfl, Lib.hid (by simp), Lib.hid (Below.refl _ _), Lib.hid (World.ownsRow_nil _ _ _ _), Lib.hid (by simp)⟩
  case round =>
    obtain ⟨k, xs, hk, rfl, HC, HB, HO, HE⟩ := hrel
    obtain ⟨oo, oc, rfl⟩ := own_form HO.out
    have hxs := HC.out
    by_cases hlt : k < rs.length
    · obtain ⟨b1, o1, e1, he1, hc1, hm1', hb1, hx1⟩ := HR.out.pos (by omega)
      simp only [Value.slice.injEq, true_and] at he1
      obtain ⟨rfl, rfl⟩ := he1
      obtain ⟨p0, p1⟩ := rl_cell (w := wr) (fun j u hu => (HB.out.cell (p := ⟨b1, o1 + j, none⟩) hb1).trans (hx1 j u hu)) k hlt
      have hbr : b1 < wr.heap.size := Nat.lt_of_lt_of_le hb1 HB.out.size
      have HF := Lib.hid (take_snoc hlt)
      clear hx1
      generalize rs[k] = x at *
      obtain ⟨x1, x2⟩ := x
      have hown := HO.out
      go_wp2_with (at_builtin; refine halt_ ?_)
      unfold Halt_
      refine app_own Try.underlying22 str_info rfl (by decide) (by decide) rfl _ _ rfl wA.heap.size rfl ((hown.alloc _).alloc _) [.string x1] rfl (heap_new2 _ _ _) rfl (str1 _) ?_ ?_ ?_
      · omega
      · have := HB.out.size; simp; omega
      intro a' cap' w3 hown' hgrow
      obtain ⟨q1, q2⟩ := own_push (x := x1) (HB.out.alloc HB.out.size _) (hown.alloc _) hown' hgrow
      have HO1 := Lib.hid q1
      have HB1 := Lib.hid q2
      clear hown hown' hgrow q1 q2
      go_wp2_with fail
      exact ⟨⟨k + 1, xs ++ [x1], by omega, by go_num, Lib.hid (by rw [List.length_append]; exact Nat.succ_le_succ hxs), HB1, HO1, Lib.hid (by rw [HF.out, List.map_append, HE.out]; rfl)⟩, by simp [intOf]; omega⟩
    · have HT := Lib.hid (HT.out.later HB.out)
      have hn0 : xs.length ≤ 1000 + 0 := by omega
      have HE0 := Lib.hid (show xs = rs.map Rl.o by rw [HE.out, List.take_of_length_le (show rs.length ≤ k by omega)])
      obtain ⟨ca, fa, za⟩ := HT.out.a
      clear hxs HC hk HE HR
      go_wp2_with fail
      clear ca fa za
      go_loopw [3, 26] (fun vo i wr => ∃ (k : Nat) (xs : List ByteArray), k ≤ l.length ∧ i = .int .i64 k ∧ Hid (xs.length ≤ 1000 + k) ∧ Hid (Below wA.heap.size wA wr) ∧ Hid (wr.ownsRow wA.heap.size 9 1 vo xs.length (strs xs)) ∧ Hid (xs = rs.map Rl.o ++ (l.take k).flatMap whoS)) (fun _ i _ => l.length - (intOf i).toNat)
      case atStart => exact ⟨0, _, by omega, rfl, Lib.hid hn0, HB, HO, Lib.hid (by rw [HE0.out]; simp)⟩
      case round =>
        clear HB HO hn0 HE0 HT
        obtain ⟨k, xs, hk, rfl, HC, HB, HO, HE⟩ := hrel
        obtain ⟨oo, oc, rfl⟩ := own_form HO.out
        have hxs := HC.out
        by_cases hlt : k < l.length
        · obtain ⟨b1, o1, e1, he1, hc1, hm1', hb1, hx1⟩ := HP.out.rs.pos (by omega)
          simp only [Value.slice.injEq, true_and] at he1
          obtain ⟨rfl, rfl⟩ := he1
          have hlow := HTA.out.low.trans (HB.out.mono HTA.out.low.size)
          obtain ⟨p0, p1, p2, p3, p4, p5, p6, p7, p8⟩ := st_cell (w := wr) (fun j u hu => (hlow.cell (p := ⟨b1, o1 + j, none⟩) hb1).trans (hx1 j u hu)) k hlt
          have hbr : b1 < wr.heap.size := Nat.lt_of_lt_of_le hb1 hlow.size
          have HF := Lib.hid (flat_snocF whoS hlt)
          clear hx1 hlow
          generalize l[k] = x at *
          obtain ⟨xk, ⟨x1, x2⟩, xw, ⟨x3, x4⟩, ⟨x5, x6⟩, xv⟩ := x
          by_cases hkk : xk = 1
          · have d1 : (xk == 1) = true := by simp [hkk]
            have HK := Lib.hid (show whoS ⟨xk, ⟨x1, x2⟩, xw, ⟨x3, x4⟩, ⟨x5, x6⟩, xv⟩ = [xw] from if_pos hkk)
            clear hkk
            have hown := HO.out
            go_wp2_with (at_builtin; refine halt_ ?_)
            unfold Halt_
            refine app_own Try.underlying22 str_info rfl (by decide) (by decide) rfl _ _ rfl wA.heap.size rfl ((hown.alloc _).alloc _) [.string xw] rfl (heap_new2 _ _ _) rfl (str1 _) ?_ ?_ ?_
            · omega
            · have := HB.out.size; simp; omega
            intro a' cap' w3 hown' hgrow
            obtain ⟨q1, q2⟩ := own_push (x := xw) (HB.out.alloc HB.out.size _) (hown.alloc _) hown' hgrow
            have HO1 := Lib.hid q1
            have HB1 := Lib.hid q2
            clear hown hown' hgrow q1 q2
            go_wp2_with fail
            exact ⟨⟨k + 1, xs ++ [xw], by omega, by go_num, Lib.hid (by rw [List.length_append]; exact Nat.succ_le_succ hxs), HB1, HO1, Lib.hid (by rw [HF.out, HK.out, HE.out, List.append_assoc])⟩, by simp [intOf]; omega⟩
          · have d1 : (xk == 1) = false := by simp [hkk]
            have HK := Lib.hid (show whoS ⟨xk, ⟨x1, x2⟩, xw, ⟨x3, x4⟩, ⟨x5, x6⟩, xv⟩ = [] from if_neg hkk)
            clear hkk
            have HO1 := Lib.hid (HO.out.alloc (.cells #[.int .i64 xk, .string x1, .string x2, .string xw, .string x3, .string x4, .string x5, .string x6, .string xv] 26))
            have HB1 := Lib.hid (HB.out.alloc HB.out.size (.cells #[.int .i64 xk, .string x1, .string x2, .string xw, .string x3, .string x4, .string x5, .string x6, .string xv] 26))
            go_wp2_with fail
            exact ⟨⟨k + 1, xs, by omega, by go_num, Lib.hid (by omega), HB1, HO1, Lib.hid (by rw [HF.out, HK.out, HE.out, List.append_nil])⟩, by simp [intOf]; omega⟩
        · have HT := Lib.hid (HTA.out.later HB.out)
          have hn0 : xs.length ≤ 1100 + 40 * 0 := by omega
          have HE0 := Lib.hid (show xs = rs.map Rl.o ++ l.flatMap whoS by rw [HE.out, List.take_of_length_le (show l.length ≤ k by omega)])
          obtain ⟨ca, fa, za⟩ := HT.out.a
          clear hxs HC hk HE
          go_wp2_with fail
          clear ca fa za
          go_loopw [3, 42] (fun vo i wr => ∃ (k : Nat) (xs : List ByteArray), k ≤ qs.length ∧ i = .int .i64 k ∧ Hid (xs.length ≤ 1100 + 40 * k) ∧ Hid (Below wA.heap.size wA wr) ∧ Hid (wr.ownsRow wA.heap.size 9 1 vo xs.length (strs xs)) ∧ Hid (xs = rs.map Rl.o ++ l.flatMap whoS ++ (qs.take k).flatMap F)) (fun _ i _ => qs.length - (intOf i).toNat)
          case atStart => exact ⟨0, _, by omega, rfl, Lib.hid hn0, HB, HO, Lib.hid (by rw [HE0.out]; simp)⟩
          case round =>
            clear HB HO hn0 HE0 HT
            obtain ⟨k, xs, hk, rfl, HC, HB, HO, HE⟩ := hrel
            obtain ⟨oo, oc, rfl⟩ := own_form HO.out
            have hxs := HC.out
            by_cases hlt : k < qs.length
            · obtain ⟨b1, o1, e1, he1, hc1, hm1', hb1, hx1⟩ := HP.out.rq.pos (by omega)
              simp only [Value.slice.injEq, true_and] at he1
              obtain ⟨rfl, rfl⟩ := he1
              have hlow := HTA.out.low.trans (HB.out.mono HTA.out.low.size)
              obtain ⟨p0, p1, p2, p3, p4, p5⟩ := q_cell (w := wr) (fun j u hu => (hlow.cell (p := ⟨b1, o1 + j, none⟩) hb1).trans (hx1 j u hu)) k hlt
              have hbr : b1 < wr.heap.size := Nat.lt_of_lt_of_le hb1 hlow.size
              have HF := Lib.hid (flat_snocF F hlt)
              obtain ⟨hu1, hu2⟩ := HFF.out _ (List.getElem_mem hlt)
              have QP := Lib.hid (fun W (hb : Below w.heap.size w W) => query_Prins qs[k] (F qs[k]) W (hu1.below hb) (by omega))
              have HLW := Lib.hid hlow
              generalize F qs[k] = us at hu1 hu2 HF QP
              obtain ⟨wo, wc, hw5⟩ := hu1.form
              clear hx1 hlow hu1
              generalize hnw : us.length = nw at hw5 hu2 QP
              have HNW := Lib.hid hnw
              clear hnw
              generalize qs[k] = x at *
              obtain ⟨xk, ⟨x1, x2⟩, ⟨x3, x4⟩, xw⟩ := x
              dsimp only at hw5
              subst hw5
              go_wp2_with fail
              refine (QP.out _ (HLW.out.alloc HLW.out.size _)).mono ?_
              rintro e w3 ⟨vz, rfl, hz, hb⟩
              have HO3 := Lib.hid (own_below (HO.out.alloc _) hb)
              have HB3 := Lib.hid ((HB.out.alloc HB.out.size _).trans (hb.mono (HB.out.alloc HB.out.size _).size))
              obtain ⟨zo, zc, rfl⟩ := hz.form
              have HZ := Lib.hid hz
              clear hz hb QP HLW
              go_wp2_with (at_builtin; refine halt_ ?_)
              unfold Halt_
              refine app_row Try.underlying22 str_info rfl (by decide) (by decide) rfl _ _ rfl wA.heap.size rfl HO3.out rfl HZ.out (strs_one _) (by omega) HB3.out.size ?_
              intro a' cap' w4 hown' hgrow
              obtain ⟨q1, q2⟩ := push_txts HB3.out HO3.out hown' hgrow
              have HO4 := Lib.hid (show w4.ownsRow wA.heap.size 9 1 (.slice a' (xs.length + nw) cap') (xs ++ us).length (strs (xs ++ us)) by rw [List.length_append, HNW.out]; exact q1)
              have HB4 := Lib.hid q2
              clear hown' hgrow q1 q2 HO3 HB3 HZ
              go_wp2_with fail
              exact ⟨⟨k + 1, xs ++ us, by omega, by go_num, Lib.hid (by rw [List.length_append, HNW.out]; omega), HB4, HO4, Lib.hid (by rw [HF.out, HE.out]; simp only [List.append_assoc])⟩, by simp [intOf]; omega⟩
            · have HXS := Lib.hid (show xs = rs.map Rl.o ++ l.flatMap whoS ++ qs.flatMap F by rw [HE.out, List.take_of_length_le (show qs.length ≤ k by omega)])
              have hxl : xs.length ≤ 6000 := by omega
              have NN := Lib.hid (names_New _ xs wr (Sl.of_own HO.out).a (by omega))
              rw [← HXS.out] at RES
              have hnl := new_len xs
              have HLW := Lib.hid (HTA.out.low.trans (HB.out.mono HTA.out.low.size))
              clear HC hk HE HO HXS
              go_wp2_with fail
              refine NN.out.mono ?_
              rintro e w4 ⟨b, rfl, ht, _, hb⟩
              have AL := Lib.hid (tab_All b (newB xs) w4 ht (by omega))
              have HLW := Lib.hid (HLW.out.trans (hb.mono HLW.out.size))
              clear ht hb NN
              go_wp2_with fail
              refine AL.out.mono ?_
              rintro e w5 ⟨v5, rfl, ho, hb⟩
              have HO5 := Lib.hid (own_base ho HLW.out.size)
              have HLW := Lib.hid (HLW.out.trans (hb.mono HLW.out.size))
              clear ho hb AL
              go_wp2
              go_ret
              exact ⟨_, rfl, by rw [← RES.out]; exact HO5.out, by rw [← RES.out]; omega, HLW.out⟩
set_option maxRecDepth 100000 in
set_option maxHeartbeats 8000000 in
theorem policy_Names (v0 v1 v2 v3 : Value) (l : List St) (g h : List Rl) (qs : List Qv) (w : World) (hp : PolAt w v0 v1 v2 v3 l g h qs) (hl : l.length ≤ 100) (hg : g.length ≤ 100) (hh : h.length ≤ 100) (hq : qs.length ≤ 100) :
    Calls Try.prog 46 #[pv v0 v1 v2 v3] w fun e w' => ∃ v, e = .returned v ∧ w'.ownsRow w.heap.size 9 1 v (newB (allNames l g h qs)).length (strs (newB (allNames l g h qs))) ∧ (newB (allNames l g h qs)).length ≤ 6000 ∧ Below w.heap.size w w' := by
  have HP := Lib.hid hp
  have RO := Lib.hid (fun W (hb : Below w.heap.size w W) => policy_roles v0 v1 v2 v3 l g h qs W (hp.below hb) hl hg hh hq)
  skip
  have RES := Lib.hid (names_congr l g h qs)
  obtain ⟨a0, c0, rfl⟩ := hp.rs.form
  obtain ⟨a1, c1, rfl⟩ := hp.rg.form
  obtain ⟨a2, c2, rfl⟩ := hp.rh.form
  obtain ⟨a3, c3, rfl⟩ := hp.rq.form
  have HT := Lib.hid (show OneAt w #[.slice a0 l.length c0, .slice a1 g.length c1, .slice a2 h.length c2, .slice a3 qs.length c3] (w.alloc (.cells #[.slice a0 l.length c0, .slice a1 g.length c1, .slice a2 h.length c2, .slice a3 qs.length c3] 55)) from ⟨Blk.new w _ _, (Below.refl _ _).alloc (Nat.le_refl _) _⟩)
  clear hp
  generalize polRoles l g h qs = rs at RO RES
  go_enter Try.func46, Try.ntmps46
  go_wp2_with fail
  refine (RO.out _ HT.out.low).mono ?_
  rintro e w1 ⟨vr, rfl, hr, hrl, hb⟩
  have HT := Lib.hid (HT.out.later hb)
  have HR := Lib.hid hr
  obtain ⟨ro, rc, rfl⟩ := hr.form
  clear hb hr RO
  obtain ⟨wA, hwA⟩ : ∃ wA, wA = w1 := ⟨_, rfl⟩
  subst hwA
  have HTA := Lib.hid HT.out
  go_wp2_with fail
  go_loopw [3, 11] (fun vo i wr => ∃ (k : Nat) (xs : List ByteArray), k ≤ rs.length ∧ i = .int .i64 k ∧ Hid (xs.length ≤ k) ∧ Hid (Below wA.heap.size wA wr) ∧ Hid (wr.ownsRow wA.heap.size 9 1 vo xs.length (strs xs)) ∧ Hid (xs = (rs.take k).map Rl.n)) (fun _ i _ => rs.length - (intOf i).toNat)
  case atStart => exact ⟨0, [], by omega, rfl, Lib.hid (by simp), Lib.hid (Below.refl _ _), Lib.hid (World.ownsRow_nil _ _ _ _), Lib.hid (by simp)⟩
  case round =>
    obtain ⟨k, xs, hk, rfl, HC, HB, HO, HE⟩ := hrel
    obtain ⟨oo, oc, rfl⟩ := own_form HO.out
    have hxs := HC.out
    by_cases hlt : k < rs.length
    · obtain ⟨b1, o1, e1, he1, hc1, hm1', hb1, hx1⟩ := HR.out.pos (by omega)
      simp only [Value.slice.injEq, true_and] at he1
      obtain ⟨rfl, rfl⟩ := he1
      obtain ⟨p0, p1⟩ := rl_cell (w := wr) (fun j u hu => (HB.out.cell (p := ⟨b1, o1 + j, none⟩) hb1).trans (hx1 j u hu)) k hlt
      have hbr : b1 < wr.heap.size := Nat.lt_of_lt_of_le hb1 HB.out.size
      have HF := Lib.hid (take_snoc hlt)
      clear hx1
      generalize rs[k] = x at *
      obtain ⟨x1, x2⟩ := x
      have hown := HO.out
      go_wp2_with (at_builtin; refine halt_ ?_)
      unfold Halt_
      refine app_own Try.underlying22 str_info rfl (by decide) (by decide) rfl _ _ rfl wA.heap.size rfl ((hown.alloc _).alloc _) [.string x2] rfl (heap_new2 _ _ _) rfl (str1 _) ?_ ?_ ?_
      · omega
      · have := HB.out.size; simp; omega
      intro a' cap' w3 hown' hgrow
      obtain ⟨q1, q2⟩ := own_push (x := x2) (HB.out.alloc HB.out.size _) (hown.alloc _) hown' hgrow
      have HO1 := Lib.hid q1
      have HB1 := Lib.hid q2
      clear hown hown' hgrow q1 q2
      go_wp2_with fail
      exact ⟨⟨k + 1, xs ++ [x2], by omega, by go_num, Lib.hid (by rw [List.length_append]; exact Nat.succ_le_succ hxs), HB1, HO1, Lib.hid (by rw [HF.out, List.map_append, HE.out]; rfl)⟩, by simp [intOf]; omega⟩
    · have HT := Lib.hid (HT.out.later HB.out)
      have hn0 : xs.length ≤ 1000 + 0 := by omega
      have HE0 := Lib.hid (show xs = rs.map Rl.n by rw [HE.out, List.take_of_length_le (show rs.length ≤ k by omega)])
      obtain ⟨ca, fa, za⟩ := HT.out.a
      clear hxs HC hk HE HR
      go_wp2_with fail
      clear ca fa za
      go_loopw [3, 24] (fun vo i wr => ∃ (k : Nat) (xs : List ByteArray), k ≤ l.length ∧ i = .int .i64 k ∧ Hid (xs.length ≤ 1000 + k) ∧ Hid (Below wA.heap.size wA wr) ∧ Hid (wr.ownsRow wA.heap.size 9 1 vo xs.length (strs xs)) ∧ Hid (xs = rs.map Rl.n ++ (l.take k).flatMap viaS)) (fun _ i _ => l.length - (intOf i).toNat)
      case atStart => exact ⟨0, _, by omega, rfl, Lib.hid hn0, HB, HO, Lib.hid (by rw [HE0.out]; simp)⟩
      case round =>
        clear HB HO hn0 HE0 HT
        obtain ⟨k, xs, hk, rfl, HC, HB, HO, HE⟩ := hrel
        obtain ⟨oo, oc, rfl⟩ := own_form HO.out
        have hxs := HC.out
        by_cases hlt : k < l.length
        · obtain ⟨b1, o1, e1, he1, hc1, hm1', hb1, hx1⟩ := HP.out.rs.pos (by omega)
          simp only [Value.slice.injEq, true_and] at he1
          obtain ⟨rfl, rfl⟩ := he1
          have hlow := HTA.out.low.trans (HB.out.mono HTA.out.low.size)
          obtain ⟨p0, p1, p2, p3, p4, p5, p6, p7, p8⟩ := st_cell (w := wr) (fun j u hu => (hlow.cell (p := ⟨b1, o1 + j, none⟩) hb1).trans (hx1 j u hu)) k hlt
          have hbr : b1 < wr.heap.size := Nat.lt_of_lt_of_le hb1 hlow.size
          have HF := Lib.hid (flat_snocF viaS hlt)
          clear hx1 hlow
          generalize l[k] = x at *
          obtain ⟨xk, ⟨x1, x2⟩, xw, ⟨x3, x4⟩, ⟨x5, x6⟩, xv⟩ := x
          by_cases hkk : xk = 3
          · have d1 : (xk == 3) = true := by simp [hkk]
            have HK := Lib.hid (show viaS ⟨xk, ⟨x1, x2⟩, xw, ⟨x3, x4⟩, ⟨x5, x6⟩, xv⟩ = [xv] from if_pos hkk)
            clear hkk
            have hown := HO.out
            go_wp2_with (at_builtin; refine halt_ ?_)
            unfold Halt_
            refine app_own Try.underlying22 str_info rfl (by decide) (by decide) rfl _ _ rfl wA.heap.size rfl ((hown.alloc _).alloc _) [.string xv] rfl (heap_new2 _ _ _) rfl (str1 _) ?_ ?_ ?_
            · omega
            · have := HB.out.size; simp; omega
            intro a' cap' w3 hown' hgrow
            obtain ⟨q1, q2⟩ := own_push (x := xv) (HB.out.alloc HB.out.size _) (hown.alloc _) hown' hgrow
            have HO1 := Lib.hid q1
            have HB1 := Lib.hid q2
            clear hown hown' hgrow q1 q2
            go_wp2_with fail
            exact ⟨⟨k + 1, xs ++ [xv], by omega, by go_num, Lib.hid (by rw [List.length_append]; exact Nat.succ_le_succ hxs), HB1, HO1, Lib.hid (by rw [HF.out, HK.out, HE.out, List.append_assoc])⟩, by simp [intOf]; omega⟩
          · have d1 : (xk == 3) = false := by simp [hkk]
            have HK := Lib.hid (show viaS ⟨xk, ⟨x1, x2⟩, xw, ⟨x3, x4⟩, ⟨x5, x6⟩, xv⟩ = [] from if_neg hkk)
            clear hkk
            have HO1 := Lib.hid (HO.out.alloc (.cells #[.int .i64 xk, .string x1, .string x2, .string xw, .string x3, .string x4, .string x5, .string x6, .string xv] 26))
            have HB1 := Lib.hid (HB.out.alloc HB.out.size (.cells #[.int .i64 xk, .string x1, .string x2, .string xw, .string x3, .string x4, .string x5, .string x6, .string xv] 26))
            go_wp2_with fail
            exact ⟨⟨k + 1, xs, by omega, by go_num, Lib.hid (by omega), HB1, HO1, Lib.hid (by rw [HF.out, HK.out, HE.out, List.append_nil])⟩, by simp [intOf]; omega⟩
        · have HXS := Lib.hid (show xs = rs.map Rl.n ++ l.flatMap viaS by rw [HE.out, List.take_of_length_le (show l.length ≤ k by omega)])
          have hxl : xs.length ≤ 6000 := by omega
          have NN := Lib.hid (names_New _ xs wr (Sl.of_own HO.out).a (by omega))
          rw [← HXS.out] at RES
          have hnl := new_len xs
          have HLW := Lib.hid (HTA.out.low.trans (HB.out.mono HTA.out.low.size))
          clear HC hk HE HO HXS
          go_wp2_with fail
          refine NN.out.mono ?_
          rintro e w4 ⟨b, rfl, ht, _, hb⟩
          have AL := Lib.hid (tab_All b (newB xs) w4 ht (by omega))
          have HLW := Lib.hid (HLW.out.trans (hb.mono HLW.out.size))
          clear ht hb NN
          go_wp2_with fail
          refine AL.out.mono ?_
          rintro e w5 ⟨v5, rfl, ho, hb⟩
          have HO5 := Lib.hid (own_base ho HLW.out.size)
          have HLW := Lib.hid (HLW.out.trans (hb.mono HLW.out.size))
          clear ho hb AL
          go_wp2
          go_ret
          exact ⟨_, rfl, by rw [← RES.out]; exact HO5.out, by rw [← RES.out]; omega, HLW.out⟩
end Go.Proofs.Ythickpocfplcoaa
namespace Go.Proofs.Ythickpocfplcoaa
open Go.RowKit Go.Shelf

def isSl : Value → Bool
  | .slice .. => true
  | _ => false
/-- A block that holds slices alone stands whole. -/
def BlkS (w : World) (g n : Nat) : Prop := ∃ cs : Array Value, Blk w g cs ∧ cs.size = n ∧ ∀ c ∈ cs.toList, isSl c = true
theorem cell_far (w : World) (g g' o o' : Nat) (v : Value) (h : ¬ g = g') : (w.setCell ⟨g, o, none⟩ v).cell? ⟨g', o', none⟩ = w.cell? ⟨g', o', none⟩ :=
  World.cell?_setCell_other w ⟨g, o, none⟩ ⟨g', o', none⟩ v (fun e => h (by injection e))
theorem Blk.far {w : World} {g g' o : Nat} {cs : Array Value} {v : Value} (h : Blk w g' cs) (hne : ¬ g = g') : Blk (w.setCell ⟨g, o, none⟩ v) g' cs :=
  ⟨fun o' => (cell_far w g g' o o' v hne).trans (h.1 o'), fun o' => by simpa using h.2.1 o', by simpa using h.2.2⟩
theorem Blk.put {w : World} {g o : Nat} {cs : Array Value} {v : Value} (h : Blk w g cs) (ho : o < cs.size) : Blk (w.setCell ⟨g, o, none⟩ v) g (cs.setIfInBounds o v) := by
  refine ⟨fun i => ?_, fun i => by simpa using h.2.1 i, by simpa using h.2.2⟩
  by_cases e : i = o
  · subst e
    rw [World.cell?_setCell_same (u := cs[i]) _ _ _ (by rw [h.1 i]; exact Array.getElem?_eq_getElem ho)]
    simp [ho]
  · rw [set_far _ _ _ _ _ e, h.1 i, Array.getElem?_setIfInBounds, if_neg (fun h => e h.symm)]
theorem BlkS.put {w : World} {g n o : Nat} {v : Value} (h : BlkS w g n) (ho : o < n) (hv : isSl v = true) : BlkS (w.setCell ⟨g, o, none⟩ v) g n := by
  obtain ⟨cs, hb, rfl, hc⟩ := h
  refine ⟨_, hb.put ho, by simp, fun c hcm => ?_⟩
  rw [Array.toList_setIfInBounds] at hcm
  rcases List.mem_or_eq_of_mem_set hcm with h | rfl
  · exact hc c h
  · exact hv
/-- A row of what isn't a slice is the same behind a store into a block of slices. -/
theorem Sl.set {w : World} {size n g m o : Nat} {v x : Value} {xs : List Value} (h : Sl w size v n xs) (hg : BlkS w g m) (hx : ∀ u ∈ xs, isSl u = false) : Sl (w.setCell ⟨g, o, none⟩ x) size v n xs := by
  obtain ⟨h1, h2, h3⟩ := h
  refine ⟨h1, h2, ?_⟩
  rcases h3 with h3 | ⟨b, off, cap, hv, hc, hm, hb, hcell⟩
  · exact .inl h3
  · refine .inr ⟨b, off, cap, hv, hc, hm, by simpa using hb, fun j u hu => ?_⟩
    by_cases e : g = b
    · subst e
      obtain ⟨cs, hbk, _, hcs⟩ := hg
      have h4 := hcell j u hu
      rw [hbk.1] at h4
      have h5 := hcs u (Array.mem_toList_iff.2 (Array.mem_of_getElem? h4))
      rw [hx u (List.mem_of_getElem? hu)] at h5; cases h5
    · exact (cell_far _ _ _ _ _ _ e).trans (hcell j u hu)
theorem st_noSl (l : List St) : ∀ u ∈ l.flatMap St.cells, isSl u = false := by
  intro u hu
  obtain ⟨x, _, hx⟩ := List.mem_flatMap.1 hu
  simp only [St.cells, List.mem_cons, List.not_mem_nil, or_false] at hx
  rcases hx with rfl | rfl | rfl | rfl | rfl | rfl | rfl | rfl | rfl <;> rfl
theorem rl_noSl (l : List Rl) : ∀ u ∈ l.flatMap Rl.cells, isSl u = false := by
  intro u hu
  obtain ⟨x, _, hx⟩ := List.mem_flatMap.1 hu
  simp only [Rl.cells, List.mem_cons, List.not_mem_nil, or_false] at hx
  rcases hx with rfl | rfl <;> rfl
theorem below_put {n g o : Nat} {w w' : World} {v : Value} (h : Below n w w') (hg : n ≤ g) : Below n w (w'.setCell ⟨g, o, none⟩ v) :=
  ⟨h.os, h.tape, h.output, by simpa [World.setCell] using h.size, fun k hk => (Below.heap_setCell _ _ _ _ (by dsimp only; omega)).trans (h.block k hk)⟩
/-- A row of values stored into a block, one behind the other. -/
def puts (w : World) (g : Nat) : Nat → List Value → World
  | _, [] => w
  | o, v :: vs => puts (w.setCell ⟨g, o, none⟩ v) g (o + 1) vs
theorem BlkS.puts {g n : Nat} : ∀ (vs : List Value) (o : Nat) (w : World), BlkS w g n → o + vs.length ≤ n → (∀ v ∈ vs, isSl v = true) → BlkS (puts w g o vs) g n
  | [], _, _, h, _, _ => h
  | v :: vs, o, w, h, ho, hv => by
    rw [List.length_cons] at ho
    exact BlkS.puts vs (o + 1) _ (h.put (by omega) (hv v (by simp))) (by omega) (fun x hx => hv x (by simp [hx]))
theorem Sl.puts {size n g m : Nat} {v : Value} {xs : List Value} (hx : ∀ u ∈ xs, isSl u = false) : ∀ (vs : List Value) (o : Nat) (w : World), Sl w size v n xs → BlkS w g m → o + vs.length ≤ m → (∀ v ∈ vs, isSl v = true) → Sl (puts w g o vs) size v n xs
  | [], _, _, h, _, _, _ => h
  | y :: vs, o, w, h, hg, ho, hv => by
    rw [List.length_cons] at ho
    exact Sl.puts hx vs (o + 1) _ (h.set hg hx) (hg.put (by omega) (hv y (by simp))) (by omega) (fun x hx => hv x (by simp [hx]))
theorem below_puts {n g : Nat} {w0 : World} (hg : n ≤ g) : ∀ (vs : List Value) (o : Nat) (w : World), Below n w0 w → Below n w0 (puts w g o vs)
  | [], _, _, h => h
  | _ :: vs, o, _, h => below_puts hg vs (o + 1) _ (below_put h hg)
theorem Blk.puts_far {g g' : Nat} {cs : Array Value} (hne : ¬ g = g') : ∀ (vs : List Value) (o : Nat) (w : World), Blk w g' cs → Blk (puts w g o vs) g' cs
  | [], _, _, h => h
  | _ :: vs, o, _, h => Blk.puts_far hne vs (o + 1) _ (h.far hne)
end Go.Proofs.Ythickpocfplcoaa
namespace Go.Proofs.Ythickpocfplcoaa
open Go.RowKit Go.Shelf

theorem roleAt_no {a b : List ByteArray} {i : Int} (h : ¬ (0 ≤ i ∧ i.toNat < a.length * b.length)) : roleAt a b i = noR := by unfold roleAt; rw [dif_neg h]
theorem atB_get {l : List ByteArray} {k : Nat} (h : k < l.length) : atB l (k : Int) = l[k] := by unfold atB; rw [dif_pos (by simp; omega)]; rfl
theorem roleAt_yes {a b : List ByteArray} {k : Nat} (h : k < a.length * b.length) : roleAt a b (k : Int) = ⟨atB a ((k / b.length : Nat) : Int), atB b ((k % b.length : Nat) : Int)⟩ := by
  have h1 : k / b.length < a.length := Nat.div_lt_of_lt_mul (by rw [Nat.mul_comm]; exact h)
  have h2 : k % b.length < b.length := Nat.mod_lt _ (Nat.pos_of_ne_zero (fun e => by rw [e] at h; omega))
  rw [atB_get h1, atB_get h2]
  unfold roleAt
  rw [dif_pos ⟨by omega, by simpa using h⟩]
  rfl
set_option maxRecDepth 100000 in
set_option maxHeartbeats 4000000 in
theorem table_RoleAt {t ba bb : Nat} {a b : List ByteArray} {w : World} (h : TblAt w t ba bb a b) (i : Int) (hi : -9223372036854775808 ≤ i ∧ i ≤ 9223372036854775807) :
    Calls Try.prog 19 #[.pointer (some ⟨t, 0, none⟩), .int .i64 i] w fun e w' => e = .returned (rv (roleAt a b i)) ∧ Below w.heap.size w w' := by
  have HT := Lib.hid h
  have P := Lib.hid (fun W (hb : Below w.heap.size w W) => table_Prins (h.below hb))
  have L := Lib.hid (fun W (hb : Below w.heap.size w W) => table_Links (h.below hb))
  have RS := Lib.hid (fun W (hb : Below w.heap.size w W) => table_Roles (h.below hb))
  have LB := Lib.hid (fun W (hb : Below w.heap.size w W) => tab_Len bb b W (h.tb.below hb))
  have A1 := Lib.hid (fun k W (hb : Below w.heap.size w W) hk => tab_At ba a k W (h.ta.below hb) hk)
  have A2 := Lib.hid (fun k W (hb : Below w.heap.size w W) hk => tab_At bb b k W (h.tb.below hb) hk)
  have T0 := Lib.hid (show OneAt w #[.string ByteArray.empty, .string ByteArray.empty] (w.alloc (.cells #[.string ByteArray.empty, .string ByteArray.empty] 24)) from ⟨Blk.new w _ _, (Below.refl _ _).alloc (Nat.le_refl _) _⟩)
  by_cases hneg : i < 0
  · have R := Lib.hid (roleAt_no (a := a) (b := b) (i := i) (by omega))
    have d : decide (i < 0) = true := decide_eq_true hneg
    clear h hneg
    go_enter Try.func19, Try.ntmps19
    go_wp2
    refine bodyPost_ret (v := rv noR) (by simp [results, Try.results19, go_sem, noR, emp]) rfl ⟨by rw [R.out], ?_⟩
    exact (Below.refl _ _).alloc (Nat.le_refl _) _
  · obtain ⟨k, rfl⟩ := Int.eq_ofNat_of_zero_le (by omega : 0 ≤ i)
    have d : decide ((k : Int) < 0) = false := by rw [decide_eq_false_iff_not]; omega
    by_cases hk : k < a.length * b.length
    · have R := Lib.hid (roleAt_yes hk)
      have hb0 : 0 < b.length := Nat.pos_of_ne_zero (fun e => by rw [e] at hk; omega)
      have nb := h.nb
      have hq1 : k / b.length ≤ k := Nat.div_le_self _ _
      have hq2 : k % b.length ≤ k := Nat.mod_le _ _
      have hq1i : ((k / b.length : Nat) : Int) ≤ 9223372036854775807 := by omega
      have hq2i : ((k % b.length : Nat) : Int) ≤ 9223372036854775807 := by omega
      have hk9 : k ≤ 9223372036854775807 := by omega
      generalize hp : a.length * b.length = p at RS hk
      have d2 : decide ((p : Int) ≤ (k : Int)) = false := by rw [decide_eq_false_iff_not]; omega
      generalize hn : b.length = n at *
      have n0 : ¬ n = 0 := by omega
      have hx : (k : Int) / n = ((k / n : Nat) : Int) := (Int.natCast_ediv k n).symm
      have hy : (k : Int).tmod n = ((k % n : Nat) : Int) := by rw [Int.tmod_eq_emod_of_nonneg (by omega)]; rfl
      generalize k / n = x at *
      generalize k % n = y at *
      have e1 : IntKind.i64.wrap (x : Int) = x := Go.IntWalk.i64_in _ (by omega)
      have e2 : IntKind.i64.wrap (y : Int) = y := Go.IntWalk.i64_in _ (by omega)
      clear h hneg hp hn
      go_enter Try.func19, Try.ntmps19
      go_wp2_with fail
      refine (RS.out _ T0.out.low).mono ?_
      rintro e w1 ⟨rfl, rfl⟩
      go_wp2_with fail
      refine (L.out _ T0.out.low).mono ?_
      rintro e w1 ⟨rfl, rfl⟩
      go_wp2_with fail
      refine (LB.out _ T0.out.low).mono ?_
      rintro e w1 ⟨rfl, rfl⟩
      go_wp2_with fail
      refine wp_region_held_drew (S := (fun _ => True)) (by kernel_rfl) trivial (fun hHeld => ?_)
      have HT0 := T0.out.drew
      (refine held_yes (v := ?_) 0 rfl (by kernel_rfl) (by kernel_rfl) (by kernel_rfl) (fun _ _ _ h => h) (by rfl) (by assumption) ?_ ?_; rotate_left; (focus ((intro w hSw); (try dsimp only at hSw); go_simp; (try with_reducible rfl))); (try simp only [Act.put, List.setIfInBounds_toArray, List.set_cons_zero, List.set_cons_succ])); (refine held_yes (v := ?_) 2 rfl (by kernel_rfl) (by kernel_rfl) (by kernel_rfl) (fun _ _ _ h => h) (by rfl) (by assumption) ?_ ?_; rotate_left; (focus ((intro w hSw); (try dsimp only at hSw); go_simp; (try with_reducible rfl))); (try simp only [Act.put, List.setIfInBounds_toArray, List.set_cons_zero, List.set_cons_succ])); (refine held_yes (v := ?_) 3 rfl (by kernel_rfl) (by kernel_rfl) (by kernel_rfl) (fun _ _ _ h => h) (by rfl) (by assumption) ?_ ?_; rotate_left; (focus ((intro w hSw); (try dsimp only at hSw); go_simp; (try with_reducible rfl))); (try simp only [Act.put, List.setIfInBounds_toArray, List.set_cons_zero, List.set_cons_succ])); (refine held_yes (v := ?_) 4 rfl (by kernel_rfl) (by kernel_rfl) (by kernel_rfl) (fun _ _ _ h => h) (by rfl) (by assumption) ?_ ?_; rotate_left; (focus ((intro w hSw); (try dsimp only at hSw); go_simp; (try with_reducible rfl))); (try simp only [Act.put, List.setIfInBounds_toArray, List.set_cons_zero, List.set_cons_succ])); (refine held_yes (v := ?_) 6 rfl (by kernel_rfl) (by kernel_rfl) (by kernel_rfl) (fun _ _ _ h => h) (by rfl) (by assumption) ?_ ?_; rotate_left; (focus ((intro w hSw); (try dsimp only at hSw); go_simp; (try with_reducible rfl))); (try simp only [Act.put, List.setIfInBounds_toArray, List.set_cons_zero, List.set_cons_succ])); (refine held_yes (v := ?_) 8 rfl (by kernel_rfl) (by kernel_rfl) (by kernel_rfl) (fun _ _ _ h => h) (by rfl) (by assumption) ?_ ?_; rotate_left; (focus ((intro w hSw); (try dsimp only at hSw); go_simp; (try with_reducible rfl))); (try simp only [Act.put, List.setIfInBounds_toArray, List.set_cons_zero, List.set_cons_succ])); (refine held_yes (v := ?_) 9 rfl (by kernel_rfl) (by kernel_rfl) (by kernel_rfl) (fun _ _ _ h => h) (by rfl) (by assumption) ?_ ?_; rotate_left; (focus ((intro w hSw); (try dsimp only at hSw); go_simp; (try with_reducible rfl))); (try simp only [Act.put, List.setIfInBounds_toArray, List.set_cons_zero, List.set_cons_succ])); (refine held_yes (v := ?_) 10 rfl (by kernel_rfl) (by kernel_rfl) (by kernel_rfl) (fun _ _ _ h => h) (by rfl) (by assumption) ?_ ?_; rotate_left; (focus ((intro w hSw); (try dsimp only at hSw); go_simp; (try with_reducible rfl))); (try simp only [Act.put, List.setIfInBounds_toArray, List.set_cons_zero, List.set_cons_succ]))
      (refine held_call 1 rfl (by kernel_rfl) (fun K hK => ?_); go_simp)
      go_at_call 16; refine (P.out _ HT0.low).mono ?_; rintro e wq ⟨rfl, rfl⟩
      (refine hK.out _ _ (trivial) (fun hHeld => ?_); clear hK K; (try simp only [Act.put, List.setIfInBounds_toArray, List.set_cons_zero, List.set_cons_succ]))
      (refine held_call 5 rfl (by kernel_rfl) (fun K hK => ?_); go_simp)
      go_at_call 38; refine (A1.out _ _ HT0.low (by omega)).mono ?_; rintro e wq ⟨rfl, rfl⟩
      (refine hK.out _ _ (trivial) (fun hHeld => ?_); clear hK K; (try simp only [Act.put, List.setIfInBounds_toArray, List.set_cons_zero, List.set_cons_succ]))
      (refine held_call 7 rfl (by kernel_rfl) (fun K hK => ?_); go_simp)
      go_at_call 18; refine (L.out _ HT0.low).mono ?_; rintro e wq ⟨rfl, rfl⟩
      (refine hK.out _ _ (trivial) (fun hHeld => ?_); clear hK K; (try simp only [Act.put, List.setIfInBounds_toArray, List.set_cons_zero, List.set_cons_succ]))
      (refine held_call 11 rfl (by kernel_rfl) (fun K hK => ?_); go_simp)
      go_at_call 38; refine (A2.out _ _ HT0.low (by omega)).mono ?_; rintro e wq ⟨rfl, rfl⟩
      (refine hK.out _ _ (trivial) (fun hHeld => ?_); clear hK K; (try simp only [Act.put, List.setIfInBounds_toArray, List.set_cons_zero, List.set_cons_succ]))
      (refine held_yes (v := ?_) 12 rfl (by kernel_rfl) (by kernel_rfl) (by kernel_rfl) (fun _ _ _ h => h) (by rfl) (by assumption) ?_ ?_; rotate_left; (focus ((intro w hSw); (try dsimp only at hSw); go_simp; (try with_reducible rfl))); (try simp only [Act.put, List.setIfInBounds_toArray, List.set_cons_zero, List.set_cons_succ]))
      obtain ⟨cs, fs, zs⟩ := HT0.a
      (refine held_call 13 rfl (by kernel_rfl) (fun K hK => ?_); go_simp)
      (refine hK.out _ _ (trivial) (fun hHeld => ?_); clear hK K; (try simp only [Act.put, List.setIfInBounds_toArray, List.set_cons_zero, List.set_cons_succ]))
      refine wpAnyH_done (by kernel_rfl) ?_ _
      have HB := Lib.hid (below_drew ((Below.refl w.heap.size w).alloc (Nat.le_refl _) (.cells #[.string (atB a x), .string (atB b y)] 24)))
      go_wp2
      refine bodyPost_ret (v := rv ⟨atB a x, atB b y⟩) (by simp [results, Try.results19, go_sem]) rfl ⟨by rw [R.out], HB.out⟩
    · have R := Lib.hid (roleAt_no (a := a) (b := b) (i := (k : Int)) (by omega))
      generalize hp : a.length * b.length = p at RS hk
      have d2 : decide ((p : Int) ≤ (k : Int)) = true := by rw [decide_eq_true_iff]; omega
      clear h hneg hp
      go_enter Try.func19, Try.ntmps19
      go_wp2_with fail
      refine (RS.out _ T0.out.low).mono ?_
      rintro e w1 ⟨rfl, rfl⟩
      go_wp2
      refine bodyPost_ret (v := rv noR) (by simp [results, Try.results19, go_sem, noR, emp]) rfl ⟨by rw [R.out], ?_⟩
      exact (Below.refl _ _).alloc (Nat.le_refl _) _
end Go.Proofs.Ythickpocfplcoaa
namespace Go.Proofs.Ythickpocfplcoaa
open Go.RowKit Go.Shelf

/-- Both statements' blocks stand whole. -/
structure TwoAt (w : World) (A B : Array Value) (wx : World) : Prop where
  a : Blk wx w.heap.size A
  b : Blk wx (w.heap.size + 1) B
  low : Below w.heap.size w wx
theorem TwoAt.later {w wx w' : World} {A B : Array Value} (h : TwoAt w A B wx) (hb : Below wx.heap.size wx w') : TwoAt w A B w' := ⟨h.a.below hb, h.b.below hb, h.low.trans (hb.mono h.low.size)⟩
theorem TwoAt.alloc {w wx : World} {A B : Array Value} (h : TwoAt w A B wx) (o : Obj) : TwoAt w A B (wx.alloc o) := h.later ((Below.refl _ _).alloc (Nat.le_refl _) o)
theorem TwoAt.drew {w wx : World} {A B : Array Value} (h : TwoAt w A B wx) : TwoAt w A B wx.drew := h.later (below_drew (Below.refl _ _))
end Go.Proofs.Ythickpocfplcoaa
