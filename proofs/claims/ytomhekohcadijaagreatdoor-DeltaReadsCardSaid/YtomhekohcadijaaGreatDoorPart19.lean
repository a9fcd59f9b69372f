/- Light of queries and policies, with the lengths of the queries' roles and principals (turned from LightS by gen_lightu.py). (*policy.maker).line: a policy with a line more that asks (printed by gen_polline.py). (*policy.maker).line: a policy with a line more that asks whether it can be (printed by gen_polline.py). (*policy.maker).line: a policy with a line more that restricts (printed by gen_polline.py). (*policy.maker).line: a policy with a line more that restricts (printed by gen_polline.py). (*policy.maker).line: a policy with a line more that is a statement (printed by gen_polline.py). (*policy.maker).line: a policy with a line more (printed by gen_polline.py). strings.CutSuffix of a line feed, strings.Lines and its iterator, scan.Lines. policy.Parse: what it returns, for every text. strings.Join of any row of texts. query.head, Print: a query's line. policy.Print: the lines of a policy that may be; nothing of another one. policy.Print: the lines of a policy that may be; nothing of another one (printed by gen_polprint.py). '==' of faults. crupperlaw05.lives: the document's example is as it says. What lines of a policy come to, one behind the other, in plain Lean. A policy's text is parsed as that policy, in plain Lean. A policy that lies in a world, as what it is. policy.Print and policy.Right of a policy that may be. policy.Right, crupperref05.Right: as the Bool that says RightD. crupperref04.Universal (out of Ref13D). crupperref04: name, Words, front, goes. crupperref04.Print: the same line. crupperref04.Words and query.Words at any kind; query.Roles. crupperref05.Print: the lines of a policy that may be; nothing of another one (printed by gen_polprint.py). slices.Equal at rows of texts. crupperref01.Same at any two rows; crupperref04.Same, query.Same at any two queries (printed by gen_qsame.py). Whether two rows of queries, two policies are the same: to the letter. slices.EqualFunc at queries; policy.Same, crupperref05.Same (printed by gen_polsame.py). policy.Normal: a policy in order (printed by gen_polnormal.py). crupperref05.SortRoles: the row that is returned is the call's own (turned out of RlSort by gen_owns.py). crupperref05.Normal: a policy in order (printed by gen_polnormal.py). crupperref01.Put, crupperref05.Prins, Names: the rows that are returned are the calls' own (turned by gen_owns.py). The statement PolicyRight: the walk of the law (printed by gen_law05g.py). The statement DeltaReads: the walk of the law (printed by gen_law32r.py). Roles and statements among a law's arguments: opened to data, and read again in a later world. Rows of statements among a law's arguments: opened. -/
import Derived.Test.YtomhekohcadijaaGreatDoorPart18
import Derived.Test.YtomhekohcadijaaGreatDoorPart15
import Derived.Test.YtomhekohcadijaaGreatDoorPart14
import Derived.Test.YtomhekohcadijaaGreatDoorPart13
import Derived.Test.YtomhekohcadijaaGreatDoorPart10
import Derived.Test.YtomhekohcadijaaGreatDoorShelf
import Derived.Test.YtomhekohcadijaaGreatDoorPart6
import Derived.Maps.AppendAt
import Derived.Test.YtomhekohcadijaaGreatDoorPart5
import Derived.Test.YtomhekohcadijaaGreatDoorPart7
import Derived.Test.YtomhekohcadijaaGreatDoorPart3
import Derived.Test.YtomhekohcadijaaGreatDoorPart2
import Derived.Test.YtomhekohcadijaaGreatDoorPart12
import Derived.Test.YtomhekohcadijaaGreatDoorPart8
import Derived.ProofKit
import Derived.OpenShut
import Derived.ChangeMaps5
import Derived.Deep.Strs
import Derived.Deep.Slices
namespace Go.Proofs.YtomhekohcadijaaGreatDoor
open Go.RowKit Go.Shelf

def Qv.okU (q : Qv) (w : World) : Prop := q.okS w ∧ ∃ ss : List ByteArray, SlA w 1 q.w ss.length (strs ss) ∧ ∀ s ∈ ss, s.size ≤ 40
def LightQU (q : Qv) (w : World) (e : Ending) : Prop := ∃ b, e = .returned (.bool b) ∧ (b = true → q.okU w)
theorem okU_back {q : Qv} {w W : World} (h : q.ok w) (hb : Below w.heap.size w W) (h' : q.okU W) : q.okU w := by
  refine ⟨okS_back h hb h'.1, ?_⟩
  obtain ⟨_, _, ss, hs, _⟩ := h
  obtain ⟨_, ts, ht, hle⟩ := h'
  have e : ts = ss := SlA.same ht (hs.below hb)
  subst e
  exact ⟨ts, hs, hle⟩
def LightX (w : World) (l : List St) (g h : List Rl) (qs : List Qv) (e : Ending) : Prop := ∃ b, e = .returned (.bool b) ∧ (b = true → (l.length ≤ 30 ∧ g.length ≤ 30 ∧ h.length ≤ 30 ∧ qs.length ≤ 30 ∧ allLe l 40 ∧ ∀ q ∈ qs, q.okU w) ∧ ∀ x ∈ g ++ h, x.le 40)
set_option maxRecDepth 100000 in
set_option maxHeartbeats 1000000 in
theorem law4_LightU (q : Qv) (w : World) (hq : q.ok w) : Calls Tryz.prog 49 #[qv q] w fun e w' => LightQU q w e ∧ Below w.heap.size w w' := by
  obtain ⟨ha, hb, ss, hs, hl⟩ := hq
  obtain ⟨k, ⟨x1, x2⟩, ⟨x3, x4⟩, wv⟩ := q
  have HS := Lib.hid (fun W h => law1_LightT wv ss W h hl)
  have HQ := Lib.hid (fun (h : ss.length ≤ 40 ∧ ∀ s ∈ ss, s.size ≤ 40) (h4 : [x1, x2, x3, x4].length ≤ 40 ∧ ∀ x ∈ [x1, x2, x3, x4], x.size ≤ 40) => show (⟨k, ⟨x1, x2⟩, ⟨x3, x4⟩, wv⟩ : Qv).okU w from ⟨⟨⟨ha, hb, ss, hs, h.1, hl⟩, ⟨h4.2 _ (by simp), h4.2 _ (by simp)⟩, ⟨h4.2 _ (by simp), h4.2 _ (by simp)⟩⟩, ss, hs, h.2⟩)
  have HW := Lib.hid hs
  have H4 := Lib.hid (fun W h => law1_LightT (.slice (some ⟨w.heap.size + 1, 0, none⟩) 4 4) [x1, x2, x3, x4] W h (by
    intro s hs; simp at hs; rcases hs with rfl | rfl | rfl | rfl
    · exact ha.1
    · exact ha.2
    · exact hb.1
    · exact hb.2))
  obtain ⟨wo, wc, rfl⟩ := hs.form
  clear ha hb hl hs
  have HB := Lib.hid ((Below.refl _ w).alloc (Nat.le_refl _) (.cells #[.int .i64 k, .string x1, .string x2, .string x3, .string x4, .slice wo ss.length wc] 83))
  have HB2 := Lib.hid (HB.out.alloc HB.out.size (.cells #[.string x1, .string x2, .string x3, .string x4] 9))
  have S4 := Lib.hid (Sl.new (w.alloc (.cells #[.int .i64 k, .string x1, .string x2, .string x3, .string x4, .slice wo ss.length wc] 83)) [.string x1, .string x2, .string x3, .string x4] 9 1 4 (w.heap.size + 1) (by simp) rfl (by simp [maxLen]))
  go_enter Tryz.func49, Tryz.ntmps49
  go_wp2_with fail
  refine (HS.out _ (HW.out.below HB.out)).mono ?_
  rintro e w1 ⟨⟨b1, rfl, hb1⟩, rfl⟩
  have HB1 := Lib.hid hb1
  clear hb1
  cases b1 with
  | false =>
    go_wp2
    go_ret
    exact ⟨⟨false, rfl, fun h => by cases h⟩, HB.out⟩
  | true =>
    go_wp2_with fail
    refine (H4.out _ S4.out.a).mono ?_
    rintro e w1 ⟨⟨b2, rfl, hb2⟩, rfl⟩
    have HB4 := Lib.hid hb2
    clear hb2
    go_wp2
    go_ret
    exact ⟨⟨b2, rfl, fun h => HQ.out (HB1.out (by first | rfl | trivial)) (HB4.out h)⟩, HB2.out⟩
set_option maxRecDepth 100000 in
set_option maxHeartbeats 8000000 in
theorem law5_LightU (v0 v1 v2 v3 : Value) (l : List St) (g h : List Rl) (qs : List Qv) (w : World) (hp : PolAt w v0 v1 v2 v3 l g h qs) :
    Calls Tryz.prog 9 #[pv v0 v1 v2 v3] w fun e w' => LightX w l g h qs e ∧ Below w.heap.size w w' := by
  have HP := Lib.hid hp
  have hm0 := hp.rs.max
  have hm1 := hp.rg.max
  have hm2 := hp.rh.max
  have hm3 := hp.rq.max
  obtain ⟨a0, c0, rfl⟩ := hp.rs.form
  obtain ⟨a1, c1, rfl⟩ := hp.rg.form
  obtain ⟨a2, c2, rfl⟩ := hp.rh.form
  obtain ⟨a3, c3, rfl⟩ := hp.rq.form
  have HL := Lib.hid (fun k (hk : k < l.length) W => law3_Light l[k] W (hp.ls _ (List.getElem_mem hk)))
  have T0 := Lib.hid (show OneAt w #[.slice a0 l.length c0, .slice a1 g.length c1, .slice a2 h.length c2, .slice a3 qs.length c3] (w.alloc (.cells #[.slice a0 l.length c0, .slice a1 g.length c1, .slice a2 h.length c2, .slice a3 qs.length c3] 26)) from ⟨Blk.new w _ _, (Below.refl _ _).alloc (Nat.le_refl _) _⟩)
  clear hp
  go_enter Tryz.func9, Tryz.ntmps9
  by_cases t0 : 30 < l.length
  · have d0 : decide ((30 : Int) < (l.length : Int)) = true := by (rw [decide_eq_true_iff]; omega)
    go_wp2
    go_ret
    exact ⟨⟨false, rfl, (fun h => by cases h)⟩, T0.out.low⟩
  have d0 : decide ((30 : Int) < (l.length : Int)) = false := by (rw [decide_eq_false_iff_not]; omega)
  by_cases t1 : 30 < g.length
  · have d1 : decide ((30 : Int) < (g.length : Int)) = true := by (rw [decide_eq_true_iff]; omega)
    go_wp2
    go_ret
    exact ⟨⟨false, rfl, (fun h => by cases h)⟩, T0.out.low⟩
  have d1 : decide ((30 : Int) < (g.length : Int)) = false := by (rw [decide_eq_false_iff_not]; omega)
  by_cases t2 : 30 < h.length
  · have d2 : decide ((30 : Int) < (h.length : Int)) = true := by (rw [decide_eq_true_iff]; omega)
    go_wp2
    go_ret
    exact ⟨⟨false, rfl, (fun h => by cases h)⟩, T0.out.low⟩
  have d2 : decide ((30 : Int) < (h.length : Int)) = false := by (rw [decide_eq_false_iff_not]; omega)
  by_cases t3 : 30 < qs.length
  · have d3 : decide ((30 : Int) < (qs.length : Int)) = true := by (rw [decide_eq_true_iff]; omega)
    go_wp2
    go_ret
    exact ⟨⟨false, rfl, (fun h => by cases h)⟩, T0.out.low⟩
  have d3 : decide ((30 : Int) < (qs.length : Int)) = false := by (rw [decide_eq_false_iff_not]; omega)
  go_wp2_with fail
  clear d0 d1 d2 d3
  go_loopw [34] (fun i wr => ∃ k : Nat, k ≤ l.length ∧ i = .int .i64 k ∧ Hid (OneAt w #[.slice a0 l.length c0, .slice a1 g.length c1, .slice a2 h.length c2, .slice a3 qs.length c3] wr) ∧ Hid (∀ j (hj : j < l.length), j < k → l[j].le 40)) (fun i _ => l.length - (intOf i).toNat)
  case atStart => exact ⟨0, by omega, rfl, T0, Lib.hid (fun _ _ h => absurd h (by omega))⟩
  case round =>
    obtain ⟨k, hk, rfl, TR, HJ⟩ := hrel
    by_cases hlt : k < l.length
    · obtain ⟨b1, o1, e1, he1, hc1, hm1', hb1, hx1⟩ := HP.out.rs.pos (by omega)
      simp only [Value.slice.injEq, true_and] at he1
      obtain ⟨rfl, rfl⟩ := he1
      obtain ⟨p0, p1, p2, p3, p4, p5, p6, p7, p8⟩ := st_cell (w := wr) (fun j u hu => (TR.out.low.cell (p := ⟨b1, o1 + j, none⟩) hb1).trans (hx1 j u hu)) k hlt
      have hbr : b1 < wr.heap.size := Nat.lt_of_lt_of_le hb1 TR.out.low.size
      have HLk := Lib.hid (fun W => HL.out k hlt W)
      clear hx1
      go_wp2_with fail
      refine (HLk.out _).mono ?_
      rintro e w2 ⟨b, rfl, hle, hb2⟩
      have HLE := Lib.hid hle
      have T2 := Lib.hid ((TR.out.alloc _).later hb2)
      clear hle hb2
      cases b with
      | false =>
        go_wp2
        go_ret
        exact ⟨⟨false, rfl, (fun h => by cases h)⟩, T2.out.low⟩
      | true =>
        have HJ2 : Hid (∀ j (hj : j < l.length), j < k + 1 → l[j].le 40) := Lib.hid (fun j hj hjk => by
          by_cases h : j < k
          · exact HJ.out j hj h
          · obtain rfl : j = k := by omega
            exact HLE.out (by first | rfl | trivial))
        go_wp2
        exact ⟨⟨k + 1, by omega, by go_num, T2, HJ2⟩, by simp [intOf]; omega⟩
    · have HJ3 := Lib.hid (show allLe l 40 from fun x hx => by
        obtain ⟨j, hj, rfl⟩ := List.getElem_of_mem hx
        exact HJ.out j hj (by omega))
      obtain ⟨ca, fa, za⟩ := TR.out.a
      clear HJ HL
      go_wp2_with fail
      go_loopw [45] (fun i wr => ∃ k : Nat, k ≤ qs.length ∧ i = .int .i64 k ∧ Hid (OneAt w #[.slice a0 l.length c0, .slice a1 g.length c1, .slice a2 h.length c2, .slice a3 qs.length c3] wr) ∧ Hid (∀ j (hj : j < qs.length), j < k → qs[j].okU w)) (fun i _ => qs.length - (intOf i).toNat)
      case atStart => exact ⟨0, by omega, rfl, TR, Lib.hid (fun _ _ h => absurd h (by omega))⟩
      case round =>
        clear TR ca fa za
        obtain ⟨k, hk, rfl, TR, HQJ⟩ := hrel
        by_cases hlt : k < qs.length
        · obtain ⟨b1, o1, e1, he1, hc1, hm1', hb1, hx1⟩ := HP.out.rq.pos (by omega)
          simp only [Value.slice.injEq, true_and] at he1
          obtain ⟨rfl, rfl⟩ := he1
          obtain ⟨p0, p1, p2, p3, p4, p5⟩ := q_cell (w := wr) (fun j u hu => (TR.out.low.cell (p := ⟨b1, o1 + j, none⟩) hb1).trans (hx1 j u hu)) k hlt
          have hbr : b1 < wr.heap.size := Nat.lt_of_lt_of_le hb1 TR.out.low.size
          have hqo := HP.out.lq _ (List.getElem_mem hlt)
          have QL := Lib.hid (fun W (hb : Below w.heap.size w W) => law4_LightU qs[k] W (hqo.below hb))
          have QB := Lib.hid (fun (W : World) (hb : Below w.heap.size w W) (h : qs[k].okU W) => okU_back hqo hb h)
          have HQ2 : Hid (qs[k].okU w → ∀ j (hj : j < qs.length), j < k + 1 → qs[j].okU w) := Lib.hid (fun hpk j hj hjk => by
            by_cases h : j < k
            · exact HQJ.out j hj h
            · obtain rfl : j = k := by omega
              exact hpk)
          obtain ⟨wo, wc, hw5⟩ : ∃ a c, qs[k].w = .slice a ((hqo.2.2).choose).length c := ((hqo.2.2).choose_spec.1).form
          generalize (hqo.2.2).choose.length = nw at hw5
          have hek : qs[k] = ⟨qs[k].k, ⟨qs[k].a.o, qs[k].a.n⟩, ⟨qs[k].b.o, qs[k].b.n⟩, qs[k].w⟩ := rfl
          clear hx1 hqo
          generalize qs[k] = x at *
          obtain ⟨xk, ⟨x1, x2⟩, ⟨x3, x4⟩, xw⟩ := x
          dsimp only at hw5
          subst hw5
          clear hek
          have T2 := Lib.hid (TR.out.alloc (.cells #[.int .i64 xk, .string x1, .string x2, .string x3, .string x4, .slice wo nw wc] 83))
          go_wp2_with fail
          refine (QL.out _ T2.out.low).mono ?_
          rintro e w2 ⟨⟨b, rfl, hbq⟩, hb2⟩
          have T3 := Lib.hid (T2.out.later hb2)
          have HBQ := Lib.hid (fun h => HQ2.out (QB.out _ T2.out.low (hbq h)))
          clear hb2 hbq
          cases b with
          | false =>
            go_wp2
            go_ret
            exact ⟨⟨false, rfl, (fun h => by cases h)⟩, T3.out.low⟩
          | true =>
            go_wp2
            exact ⟨⟨k + 1, by omega, by go_num, T3, Lib.hid (HBQ.out (by first | rfl | trivial))⟩, by simp [intOf]; omega⟩
        · have HQA := Lib.hid (show ∀ q ∈ qs, q.okU w from fun q hq => by
            obtain ⟨j, hj, rfl⟩ := List.getElem_of_mem hq
            exact HQJ.out j hj (by omega))
          obtain ⟨inf, hi, hz0, hz1, hz2⟩ := info_parts rl_info'
          have HINF := Lib.hid hi
          have T2 := TR.out.drew
          have hown : (wr.drew.alloc (.cells #[] 78)).ownsRow wr.heap.size 78 2 (.slice (some ⟨wr.heap.size, 0, none⟩) 0 0) 0 [] := World.ownsRow_made wr.drew #[] 0 (Nat.le_refl _) (Nat.zero_le _) (by simp)
          have hlow : Below wr.heap.size wr (wr.drew.alloc (.cells #[] 78)) := (below_drew (Below.refl _ _)).alloc (Nat.le_refl _) _
          have T4 := TR.out.later hlow
          obtain ⟨ca, fa, za⟩ := TR.out.a
          have hza : w.heap.size < wr.heap.size := za
          clear hi fa za
          go_wp2_with fail
          go_region_held3 (fun W => ∀ o, W.cell? ⟨w.heap.size, o, none⟩ = (#[.slice a0 l.length c0, .slice a1 g.length c1, .slice a2 h.length c2, .slice a3 qs.length c3] : Array Value)[o]?)
            (first | exact T2.a.1 | exact T4.a.1 | exact T5.a.1 | exact T6.a.1 | go_keep)
            (first
              | (refine step_row rfl _ _ 23 rfl wr.heap.size 78 inf _ 2 32 Tryz.underlying23 HINF.out hz0 hz1 hz2 (Nat.le_of_ble_eq_true rfl) rfl (Nat.le_of_ble_eq_true rfl) _ 0 [] rfl hown _ g.length _ rfl (HP.out.rg.below T4.low) (rls_one _) ?_ hlow.size ?_; omega; intro a5 c5 w5 hown5 hg5; have hb5 := below_own hlow hown hg5 hlow.size (Nat.le_refl _); have T5 := TR.out.later hb5)
              | (refine step_row rfl _ _ 23 rfl wr.heap.size 78 inf _ 2 32 Tryz.underlying23 HINF.out hz0 hz1 hz2 (Nat.le_of_ble_eq_true rfl) rfl (Nat.le_of_ble_eq_true rfl) _ (0 + g.length) _ rfl hown5 _ h.length _ rfl (HP.out.rh.below T5.low) (rls_one _) ?_ hb5.size ?_; omega; intro a6 c6 w6 hown6 hg6; have hb6 := below_own hb5 hown5 hg6 hb5.size (Nat.le_refl _); have T6 := TR.out.later hb6; obtain ⟨n6, hn6⟩ : ∃ n6, n6 = 0 + g.length + h.length := ⟨_, rfl⟩; rw [← hn6] at hown6 ⊢; have HN6 := Lib.hid hn6; clear hn6))
          have HS6 := Lib.hid (show Sl w6 2 (.slice a6 n6 c6) n6 ((g ++ h).flatMap Rl.cells) by have := Sl.of_own hown6; rw [rl_flat]; simpa using this)
          have HLe := Lib.hid (show ∀ x ∈ g ++ h, x.le 9223372036854775807 from fun x hx => by
            rcases List.mem_append.1 hx with hx | hx
            · exact HP.out.lg x hx
            · exact HP.out.lh x hx)
          have HN := Lib.hid (show n6 = (g ++ h).length by rw [HN6.out, List.length_append]; omega)
          have HB6 := Lib.hid T6.low
          have hn6m : n6 ≤ 1000 := by have := HN6.out; omega
          have HGH : ∃ gh, Hid (g ++ h = gh) := ⟨_, Lib.hid rfl⟩
          obtain ⟨gh, HGH⟩ := HGH
          rw [HGH.out] at HS6 HLe HN
          clear hown5 hown6 hg5 hg6 hb5 hb6 T2 T4 T5 T6 hlow hown ca hza TR HN6
          go_wp2_with fail
          go_loopw [61] (fun i wr => ∃ k : Nat, k ≤ n6 ∧ i = .int .i64 k ∧ Hid (Below w6.heap.size w6 wr) ∧ Hid (∀ j (hj : j < gh.length), j < k → gh[j].le 40)) (fun i _ => n6 - (intOf i).toNat)
          case atStart => exact ⟨0, by omega, rfl, Lib.hid (Below.refl _ _), Lib.hid (fun _ _ h => absurd h (by omega))⟩
          case round =>
            obtain ⟨k, hk, rfl, HB, HRJ⟩ := hrel
            by_cases hlt : k < n6
            · obtain ⟨b1, o1, e1, he1, hc1, hm1', hb1, hx1⟩ := HS6.out.pos (by omega)
              simp only [Value.slice.injEq, true_and] at he1
              obtain ⟨rfl, rfl⟩ := he1
              have hlt2 : k < gh.length := by have := HN.out; omega
              obtain ⟨p0, p1⟩ := rl_cell (w := wr) (fun j u hu => (HB.out.cell (p := ⟨b1, o1 + j, none⟩) hb1).trans (hx1 j u hu)) k hlt2
              have hbr : b1 < wr.heap.size := Nat.lt_of_lt_of_le hb1 HB.out.size
              have hle := HLe.out _ (List.getElem_mem hlt2)
              have HR2 : Hid (gh[k].le 40 → ∀ j (hj : j < gh.length), j < k + 1 → gh[j].le 40) := Lib.hid (fun hpk j hj hjk => by
                by_cases h : j < k
                · exact HRJ.out j hj h
                · obtain rfl : j = k := by omega
                  exact hpk)
              clear hx1
              generalize gh[k] = x at *
              obtain ⟨x1, x2⟩ := x
              have hz1' : x1.size ≤ 9223372036854775807 := hle.1
              have hz2' : x2.size ≤ 9223372036854775807 := hle.2
              have HB2 := Lib.hid (HB.out.alloc HB.out.size (.cells #[.string x1, .string x2] 78))
              clear hle
              by_cases q1 : 40 < x1.size
              · have d1 : decide ((40 : Int) < (x1.size : Int)) = true := by (rw [decide_eq_true_iff]; omega)
                clear q1
                go_wp2
                go_ret
                exact ⟨⟨false, rfl, (fun h => by cases h)⟩, HB6.out.trans (HB2.out.mono HB6.out.size)⟩
              have d1 : decide ((40 : Int) < (x1.size : Int)) = false := by (rw [decide_eq_false_iff_not]; omega)
              have Q1 := Lib.hid q1
              clear q1
              by_cases q2 : 40 < x2.size
              · have d2 : decide ((40 : Int) < (x2.size : Int)) = true := by (rw [decide_eq_true_iff]; omega)
                clear q2
                go_wp2
                go_ret
                exact ⟨⟨false, rfl, (fun h => by cases h)⟩, HB6.out.trans (HB2.out.mono HB6.out.size)⟩
              have d2 : decide ((40 : Int) < (x2.size : Int)) = false := by (rw [decide_eq_false_iff_not]; omega)
              have HR3 := Lib.hid (HR2.out ⟨by have := Q1.out; show x1.size ≤ 40; omega, by show x2.size ≤ 40; omega⟩)
              clear q2
              go_wp2
              exact ⟨⟨k + 1, by omega, by go_num, HB2, HR3⟩, by simp [intOf]; omega⟩
            · have HR4 : Hid (∀ x ∈ g ++ h, x.le 40) := Lib.hid (by
                rw [HGH.out]
                intro x hx
                obtain ⟨j, hj, rfl⟩ := List.getElem_of_mem hx
                exact HRJ.out j hj (by have := HN.out; omega))
              go_wp2
              go_ret
              exact ⟨⟨true, rfl, (fun _ => ⟨⟨by omega, by omega, by omega, by omega, HJ3.out, HQA.out⟩, HR4.out⟩)⟩, HB6.out.trans (HB.out.mono HB6.out.size)⟩
end Go.Proofs.YtomhekohcadijaaGreatDoor
namespace Go.Proofs.YtomhekohcadijaaGreatDoor
open Go.RowKit Go.Shelf

end Go.Proofs.YtomhekohcadijaaGreatDoor
namespace Go.Proofs.YtomhekohcadijaaGreatDoor
open Go.RowKit Go.Shelf

end Go.Proofs.YtomhekohcadijaaGreatDoor
namespace Go.Proofs.YtomhekohcadijaaGreatDoor
open Go.RowKit Go.Shelf

end Go.Proofs.YtomhekohcadijaaGreatDoor
namespace Go.Proofs.YtomhekohcadijaaGreatDoor
open Go.RowKit Go.Shelf

end Go.Proofs.YtomhekohcadijaaGreatDoor
namespace Go.Proofs.YtomhekohcadijaaGreatDoor
open Go.RowKit Go.Shelf

end Go.Proofs.YtomhekohcadijaaGreatDoor
namespace Go.Proofs.YtomhekohcadijaaGreatDoor
open Go.RowKit Go.Shelf

end Go.Proofs.YtomhekohcadijaaGreatDoor
namespace Go.Proofs.YtomhekohcadijaaGreatDoor
open Go.RowKit Go.Shelf

attribute [local go_sem] Oper.semAt_some
end Go.Proofs.YtomhekohcadijaaGreatDoor
namespace Go.Proofs.YtomhekohcadijaaGreatDoor
open Go.RowKit Go.Shelf

end Go.Proofs.YtomhekohcadijaaGreatDoor
namespace Go.Proofs.YtomhekohcadijaaGreatDoor
open Go.RowKit Go.Shelf

end Go.Proofs.YtomhekohcadijaaGreatDoor
namespace Go.Proofs.YtomhekohcadijaaGreatDoor
open Go.RowKit Go.Shelf

end Go.Proofs.YtomhekohcadijaaGreatDoor
namespace Go.Proofs.YtomhekohcadijaaGreatDoor
open Go.RowKit Go.Shelf

end Go.Proofs.YtomhekohcadijaaGreatDoor
namespace Go.Proofs.YtomhekohcadijaaGreatDoor
open Go.RowKit Go.Shelf

theorem rightD_iff {p : Pd} {zs : List (Qd × Value)} {F : Qv → List ByteArray} (hz : zs.map (·.1) = p.q) (hF : ∀ z ∈ zs, F (qz z) = z.1.us) (hl : p.l.length ≤ 80) (hg : p.g.length ≤ 40) (hh : p.h.length ≤ 40) : RightP p.l p.g p.h (zs.map qz) F ↔ RightD p := by
  have hq : (∀ q ∈ zs.map qz, rightQ q (F q) = true) ↔ ∀ x ∈ p.q, GoodQ x := by
    constructor
    · intro h x hx
      rw [← hz] at hx
      obtain ⟨z, hz, rfl⟩ := List.mem_map.1 hx
      have h1 := h (qz z) (List.mem_map_of_mem hz)
      rw [hF z hz] at h1
      exact right_iff.1 h1
    · intro h q hq
      obtain ⟨z, hz', rfl⟩ := List.mem_map.1 hq
      rw [hF z hz']
      exact right_iff.2 (h z.1 (by rw [← hz]; exact List.mem_map_of_mem hz'))
  unfold RightP
  rw [hq, ← fitsD_of p zs F hz hF hl hg hh]
  constructor
  · rintro ⟨h1, h2, h3, h4, h5, h6, h7⟩
    exact ⟨⟨h1, fun x hx => h2 x (List.mem_append.2 (.inl hx)), fun x hx => h2 x (List.mem_append.2 (.inr hx)), h3⟩, h4, h5, h6, h7⟩
  · rintro ⟨⟨h1, h2, h2', h3⟩, h4, h5, h6, h7⟩
    exact ⟨h1, fun x hx => (List.mem_append.1 hx).elim (h2 x) (h2' x), h3, h4, h5, h6, h7⟩
theorem printS_size {s : St} (h : rightS s = true) : (printS s).size ≤ 100 := by
  obtain ⟨⟨l1, l2⟩, l3, ⟨l4, l5⟩, ⟨l6, l7⟩, l8⟩ := rightS_le h
  unfold printS
  rw [if_pos h]
  have e1 : (⟨#[46]⟩ : ByteArray).size = 1 := rfl
  have e4 : (⟨#[32, 60, 45, 32]⟩ : ByteArray).size = 4 := rfl
  have e3 : (⟨#[32, 38, 32]⟩ : ByteArray).size = 3 := rfl
  have : ∀ x : ByteArray, x.size ≤ 50 → (roleT s.h ++ ⟨#[32, 60, 45, 32]⟩ ++ x).size ≤ 100 := fun x hx => by
    simp only [roleT, ByteArray.size_append, e1, e4]; omega
  refine this _ ?_
  (repeat' split) <;> (try simp only [roleT, ByteArray.size_append, e1, e3]) <;> omega

end Go.Proofs.YtomhekohcadijaaGreatDoor
namespace Go.Proofs.YtomhekohcadijaaGreatDoor
open Go.RowKit Go.Shelf

end Go.Proofs.YtomhekohcadijaaGreatDoor
namespace Go.Proofs.YtomhekohcadijaaGreatDoor
open Go.RowKit Go.Shelf

end Go.Proofs.YtomhekohcadijaaGreatDoor
namespace Go.Proofs.YtomhekohcadijaaGreatDoor
open Go.RowKit Go.Shelf

end Go.Proofs.YtomhekohcadijaaGreatDoor
namespace Go.Proofs.YtomhekohcadijaaGreatDoor
open Go.RowKit Go.Shelf

end Go.Proofs.YtomhekohcadijaaGreatDoor
namespace Go.Proofs.YtomhekohcadijaaGreatDoor
open Go.RowKit Go.Shelf

theorem PolAt.give {w : World} {v0 v1 v2 v3 : Value} {l : List St} {g h : List Rl} {qs : List Qv} (H : PolAt w v0 v1 v2 v3 l g h qs) :
    ∃ zs : List (Qd × Value), PolD w v0 v1 v2 v3 ⟨l, g, h, zs.map (·.1)⟩ zs ∧ zs.map qz = qs := by
  have hz : (qs.map (fun q : Qv => ((⟨q.k, q.a, q.b, whoAt w q.w⟩ : Qd), q.w))).map qz = qs := by
    rw [List.map_map]
    conv => rhs; rw [← List.map_id qs]
    rfl
  refine ⟨qs.map (fun q : Qv => ((⟨q.k, q.a, q.b, whoAt w q.w⟩ : Qd), q.w)), ⟨rfl, H.rs, H.rg, H.rh, ?_, ?_⟩, hz⟩
  · rw [hz, List.length_map]
    exact H.rq
  · intro z hz
    obtain ⟨q, hq, rfl⟩ := List.mem_map.1 hz
    obtain ⟨_, _, ss, hs, _⟩ := H.lq q hq
    dsimp only
    rw [whoAt_eq hs]
    exact hs
theorem leP_light {w : World} {v0 v1 v2 v3 : Value} {l : List St} {g h : List Rl} {zs : List (Qd × Value)} (H : PolD w v0 v1 v2 v3 ⟨l, g, h, zs.map (·.1)⟩ zs) (hl : allLe l 40) (hq : ∀ q ∈ zs.map qz, q.okU w) (hgh : ∀ x ∈ g ++ h, x.le 40) :
    LeP ⟨l, g, h, zs.map (·.1)⟩ 40 40 := by
  have a : ∀ z ∈ zs, (qz z).okU w := fun z hz => hq _ (List.mem_map.2 ⟨z, hz, rfl⟩)
  refine ⟨hl, fun x hx => hgh x (List.mem_append.2 (.inl hx)), fun x hx => hgh x (List.mem_append.2 (.inr hx)), ?_, ?_, ?_, ?_⟩
  · intro x hx
    obtain ⟨z, hz, rfl⟩ := List.mem_map.1 hx
    exact (a z hz).1.2.1
  · intro x hx
    obtain ⟨z, hz, rfl⟩ := List.mem_map.1 hx
    exact (a z hz).1.2.2
  · intro x hx
    obtain ⟨z, hz, rfl⟩ := List.mem_map.1 hx
    obtain ⟨_, ss, hs, hle⟩ := a z hz
    have e : ss = z.1.us := SlA.same hs (H.rw z hz)
    rw [← e]
    exact hle
  · intro x hx
    obtain ⟨z, hz, rfl⟩ := List.mem_map.1 hx
    obtain ⟨⟨⟨_, _, ss, hs, hle, _⟩, _⟩, _⟩ := a z hz
    have e : ss = z.1.us := SlA.same hs (H.rw z hz)
    rw [← e]
    exact hle
end Go.Proofs.YtomhekohcadijaaGreatDoor
namespace Go.Proofs.YtomhekohcadijaaGreatDoor
open Go.RowKit Go.Shelf

theorem right_any {w : World} {v0 v1 v2 v3 : Value} {p : Pd} {zs : List (Qd × Value)} (H : PolD w v0 v1 v2 v3 p zs) (hle : LeP p 4294967 40) (hl : p.l.length ≤ 80) (hg : p.g.length ≤ 40) (hh : p.h.length ≤ 40) (hq : p.q.length ≤ 100) :
    Calls Tryz.prog 65 #[pv v0 v1 v2 v3] w fun e w' => (∃ b, e = .returned (.bool b) ∧ (b = true ↔ RightD p)) ∧ Below w.heap.size w w' := by
  have hm : ∀ z ∈ zs, z.1 ∈ p.q := fun z hz => by rw [← H.z]; exact List.mem_map_of_mem hz
  refine (policy_RightL v0 v1 v2 v3 p.l p.g p.h (zs.map qz) w (H.at (hle.mono (by decide) (Nat.le_refl _))) hl hg hh (by rw [H.qlen]; exact hq) (fun x hx => hle.l x hx) (fun x hx => (List.mem_append.1 hx).elim (hle.g x) (hle.h x)) (fun q hq => by
    obtain ⟨z, hz, rfl⟩ := List.mem_map.1 hq
    exact ⟨hle.qa _ (hm z hz), hle.qb _ (hm z hz)⟩) (FAt w) (H.who hle (by decide)) (fun q hq s hs => by
    obtain ⟨z, hz, rfl⟩ := List.mem_map.1 hq
    rw [H.F z hz] at hs
    have := hle.qs _ (hm z hz) s hs
    omega)).mono ?_
  rintro e w1 ⟨⟨b, rfl, hb⟩, hw⟩
  exact ⟨⟨b, rfl, hb.trans (rightD_iff H.z H.F hl hg hh)⟩, hw⟩
end Go.Proofs.YtomhekohcadijaaGreatDoor
namespace Go.Proofs.YtomhekohcadijaaGreatDoor
open Go.RowKit Go.Shelf

theorem policy_RightB {w : World} {v0 v1 v2 v3 : Value} {p : Pd} {zs : List (Qd × Value)} {B : Bool} (H : PolD w v0 v1 v2 v3 p zs) (hle : LeP p 40 40) (hl : p.l.length ≤ 30) (hg : p.g.length ≤ 30) (hh : p.h.length ≤ 30) (hq : p.q.length ≤ 30) (hB : B = true ↔ RightD p) :
    Calls Tryz.prog 65 #[pv v0 v1 v2 v3] w fun e w' => e = .returned (.bool B) ∧ Below w.heap.size w w' := by
  refine (right_any H (hle.mono (by decide) (Nat.le_refl _)) (by omega) (by omega) (by omega) (by omega)).mono ?_
  rintro e w1 ⟨⟨b, rfl, hb⟩, hw⟩
  obtain rfl : b = B := Bool.eq_iff_iff.2 (hb.trans hB.symm)
  exact ⟨rfl, hw⟩
theorem ref5_RightB {w : World} {v0 v1 v2 v3 : Value} {p : Pd} {zs : List (Qd × Value)} {B : Bool} (H : PolD w v0 v1 v2 v3 p zs) (hle : LeP p 40 40) (hl : p.l.length ≤ 30) (hg : p.g.length ≤ 30) (hh : p.h.length ≤ 30) (hq : p.q.length ≤ 30) (hB : B = true ↔ RightD p) :
    Calls Tryz.prog 20 #[pv v0 v1 v2 v3] w fun e w' => e = .returned (.bool B) ∧ Below w.heap.size w w' := by
  have hm : ∀ z ∈ zs, z.1 ∈ p.q := fun z hz => by rw [← H.z]; exact List.mem_map_of_mem hz
  refine (ref5_RightL v0 v1 v2 v3 p.l p.g p.h (zs.map qz) w (H.at (hle.mono (by decide) (Nat.le_refl _))) hl hg hh (by rw [H.qlen]; exact hq) (fun x hx => hle.l x hx) (FAt w) (H.who hle (Nat.le_refl _)) (fun q hq s hs => by
    obtain ⟨z, hz, rfl⟩ := List.mem_map.1 hq
    rw [H.F z hz] at hs
    have := hle.qs _ (hm z hz) s hs
    omega)).mono ?_
  rintro e w1 ⟨⟨b, rfl, hb⟩, hw⟩
  obtain rfl : b = B := Bool.eq_iff_iff.2 ((hb.trans (rightD_iff H.z H.F (by omega) (by omega) (by omega))).trans hB.symm)
  exact ⟨rfl, hw⟩
end Go.Proofs.YtomhekohcadijaaGreatDoor
namespace Go.Proofs.YtomhekohcadijaaGreatDoor
open Go.RowKit Go.Shelf

end Go.Proofs.YtomhekohcadijaaGreatDoor
namespace Go.Proofs.YtomhekohcadijaaGreatDoor
open Go.RowKit Go.Shelf

end Go.Proofs.YtomhekohcadijaaGreatDoor
namespace Go.Proofs.YtomhekohcadijaaGreatDoor
open Go.RowKit Go.Shelf

end Go.Proofs.YtomhekohcadijaaGreatDoor
namespace Go.Proofs.YtomhekohcadijaaGreatDoor
open Go.RowKit Go.Shelf

end Go.Proofs.YtomhekohcadijaaGreatDoor
namespace Go.Proofs.YtomhekohcadijaaGreatDoor
open Go.RowKit Go.Shelf

end Go.Proofs.YtomhekohcadijaaGreatDoor
namespace Go.Proofs.YtomhekohcadijaaGreatDoor
open Go.RowKit Go.Shelf

def sameQ (x y : Qd) : Bool := if x.k = y.k then if x.a = y.a then if x.b = y.b then decide (x.us = y.us) else false else false else false
theorem sameQ_iff {x y : Qd} : sameQ x y = true ↔ x = y := by
  obtain ⟨k, a, b, us⟩ := x
  obtain ⟨k', a', b', us'⟩ := y
  unfold sameQ
  simp only [Qd.mk.injEq]
  constructor
  · intro h
    split at h
    · split at h
      · split at h
        · exact ⟨by assumption, by assumption, by assumption, of_decide_eq_true h⟩
        · exact absurd h (by decide)
      · exact absurd h (by decide)
    · exact absurd h (by decide)
  · rintro ⟨rfl, rfl, rfl, rfl⟩
    simp
end Go.Proofs.YtomhekohcadijaaGreatDoor
namespace Go.Proofs.YtomhekohcadijaaGreatDoor
open Go.RowKit Go.Shelf

instance : DecidableEq Qd := fun x y => decidable_of_iff (sameQ x y = true) sameQ_iff
end Go.Proofs.YtomhekohcadijaaGreatDoor
namespace Go.Proofs.YtomhekohcadijaaGreatDoor
open Go.RowKit Go.Shelf

end Go.Proofs.YtomhekohcadijaaGreatDoor
namespace Go.Proofs.YtomhekohcadijaaGreatDoor
open Go.RowKit Go.Shelf

end Go.Proofs.YtomhekohcadijaaGreatDoor
namespace Go.Proofs.YtomhekohcadijaaGreatDoor
open Go.RowKit Go.Shelf

end Go.Proofs.YtomhekohcadijaaGreatDoor
namespace Go.Proofs.YtomhekohcadijaaGreatDoor
open Go.RowKit Go.Shelf

end Go.Proofs.YtomhekohcadijaaGreatDoor
namespace Go.Proofs.YtomhekohcadijaaGreatDoor
open Go.RowKit Go.Shelf

end Go.Proofs.YtomhekohcadijaaGreatDoor
namespace Go.Proofs.YtomhekohcadijaaGreatDoor
open Go.RowKit Go.Shelf

end Go.Proofs.YtomhekohcadijaaGreatDoor
namespace Go.Proofs.YtomhekohcadijaaGreatDoor
open Go.RowKit Go.Shelf

theorem goodD_of {l1 l2 : List St} {g1 h1 g2 h2 : List Rl} {q1 q2 : List Qd} (a : RightD ⟨l1, g1, h1, q1⟩) (b : RightD ⟨l2, g2, h2, q2⟩) : GoodL (Dl.of l1 g1 h1 l2 g2 h2) where
  r_gone := fun x hx => a.ok.l x ((minus_mem _ _ _).1 hx).1
  a_gone := minus_asc _ _
  r_more := fun x hx => b.ok.l x ((minus_mem _ _ _).1 hx).1
  a_more := minus_asc _ _
  r_ungrow := fun x hx => a.ok.g x ((out_memR _ _ _).1 hx).1
  a_ungrow := out_ascR _ _
  r_grow := fun x hx => b.ok.g x ((out_memR _ _ _).1 hx).1
  a_grow := out_ascR _ _
  r_unshrink := fun x hx => a.ok.h x ((out_memR _ _ _).1 hx).1
  a_unshrink := out_ascR _ _
  r_shrink := fun x hx => b.ok.h x ((out_memR _ _ _).1 hx).1
  a_shrink := out_ascR _ _
theorem lines_small {d : Dl} {m : Nat} (h : GoodL d) (hl : d.le 300 m) : d.lines.length ≤ 10000 ∧ ∀ s ∈ d.lines, s.size ≤ 1000000 := by
  obtain ⟨n0, n1, n2, n3, n4, n5, _, _, _, _, _, _⟩ := hl
  constructor
  · unfold Dl.lines lnS lnR
    simp only [List.length_append, List.length_map]
    omega
  · have S : ∀ (m : ByteArray) (l : List St), m.size ≤ 9 → (∀ x ∈ l, rightS x = true) → ∀ s ∈ lnS m l, s.size ≤ 1000000 := fun m l hm hr s hs => by
      obtain ⟨x, hx, rfl⟩ := List.mem_map.1 hs
      have := printS_size (hr x hx)
      rw [ByteArray.size_append]
      omega
    have R : ∀ (m : ByteArray) (l : List Rl), m.size ≤ 9 → (∀ x ∈ l, isRole x = true) → ∀ s ∈ lnR m l, s.size ≤ 1000000 := fun m l hm hr s hs => by
      obtain ⟨x, hx, rfl⟩ := List.mem_map.1 hs
      have := role_size (hr x hx)
      rw [ByteArray.size_append]
      omega
    intro s hs
    unfold Dl.lines at hs
    simp only [List.mem_append] at hs
    rcases hs with ((((hs | hs) | hs) | hs) | hs) | hs
    · exact S _ _ (by decide) h.r_gone s hs
    · exact S _ _ (by decide) h.r_more s hs
    · exact R _ _ (by decide) h.r_ungrow s hs
    · exact R _ _ (by decide) h.r_grow s hs
    · exact R _ _ (by decide) h.r_unshrink s hs
    · exact R _ _ (by decide) h.r_shrink s hs
theorem SlA.frontT {w : World} {a : Option Addr} {c : Nat} {xs : List ByteArray} {n : Nat} (h : SlA w 1 (.slice a xs.length c) xs.length (strs xs)) (hn : n ≤ xs.length) : SlA w 1 (.slice a n c) n (strs (xs.take n)) := by
  by_cases h0 : 0 < xs.length
  · obtain ⟨b, o, c', e, h1, h2, h3, h4⟩ := h.pos h0
    simp only [Value.slice.injEq, true_and] at e
    obtain ⟨rfl, rfl⟩ := e
    refine .inl ⟨by rw [strs_len, List.length_take]; omega, by have := h.max; unfold maxLen; omega, .inr ⟨b, o, c, rfl, by omega, h2, h3, fun j u hu => h4 j u ?_⟩⟩
    unfold strs at hu ⊢
    rw [List.map_take, List.getElem?_take] at hu
    split at hu
    · exact hu
    · cases hu
  · have e : xs = [] := List.eq_nil_of_length_eq_zero (by omega)
    subst e
    obtain rfl : n = 0 := by simpa using hn
    simpa using h
set_option maxRecDepth 100000 in
set_option maxHeartbeats 16000000 in
theorem law32_DeltaReads (v0 v1 v2 v3 u0 u1 u2 u3 va : Value) (l1 l2 : List St) (g1 h1 g2 h2 : List Rl) (q1 q2 : List Qv) (l : List ByteArray) (w : World) (hg : Gl w) (hp1 : PolAt w v0 v1 v2 v3 l1 g1 h1 q1) (hp2 : PolAt w u0 u1 u2 u3 l2 g2 h2 q2) (ha : SlA w 1 va l.length (strs l)) (hs : ∀ s ∈ l, s.size ≤ 9223372036854775807) :
    Calls Tryz.prog 3 #[pv v0 v1 v2 v3, pv u0 u1 u2 u3, va] w fun e w' => e = .returned (.bool true) ∧ Below w.heap.size w w' := by
  have HG := Lib.hid hg
  have HA := Lib.hid ha
  have HL := Lib.hid (fun W => law32_lives W)
  have L1 := Lib.hid (fun W (hb : Below w.heap.size w W) => law5_LightU v0 v1 v2 v3 l1 g1 h1 q1 W (hp1.below hb))
  have L2 := Lib.hid (fun W (hb : Below w.heap.size w W) => law5_LightU u0 u1 u2 u3 l2 g2 h2 q2 W (hp2.below hb))
  have L3 := Lib.hid (fun W (hb : Below w.heap.size w W) => law1_LightT va l W (ha.below hb) hs)
  obtain ⟨zs, hz1, hz2⟩ := hp1.give
  have HZ1 := Lib.hid hz1
  have EZ1 := Lib.hid hz2
  obtain ⟨zt, hy1, hy2⟩ := hp2.give
  have HZ2 := Lib.hid hy1
  have EZ2 := Lib.hid hy2
  have HP1 := Lib.hid hp1
  have HP2 := Lib.hid hp2
  clear hz1 hz2 hy1 hy2
  obtain ⟨ao, ac, rfl⟩ := ha.form
  obtain ⟨a0, c0, rfl⟩ := hp1.rs.form
  obtain ⟨a1, c1, rfl⟩ := hp1.rg.form
  obtain ⟨a2, c2, rfl⟩ := hp1.rh.form
  obtain ⟨a3, c3, rfl⟩ := hp1.rq.form
  obtain ⟨b0, d0, rfl⟩ := hp2.rs.form
  obtain ⟨b1, d1, rfl⟩ := hp2.rg.form
  obtain ⟨b2, d2, rfl⟩ := hp2.rh.form
  obtain ⟨b3, d3, rfl⟩ := hp2.rq.form
  clear hg hp1 hp2 ha hs
  have HT := Lib.hid (TwoAt.new w #[.slice a0 l1.length c0, .slice a1 g1.length c1, .slice a2 h1.length c2, .slice a3 q1.length c3] #[.slice b0 l2.length d0, .slice b1 g2.length d1, .slice b2 h2.length d2, .slice b3 q2.length d3] 26 26)
  go_enter Tryz.func3, Tryz.ntmps3
  go_wp2_with fail
  have HZA := Lib.hid (HZ1.out.below HT.out.low)
  refine (L1.out _ HT.out.low).mono ?_
  rintro e w2 ⟨⟨bL, rfl, hbL⟩, hb2⟩
  have HT2 := Lib.hid (HT.out.later hb2)
  clear hb2 HT L1
  have HT := HT2
  clear HT2
  cases bL with
  | false =>
    clear hbL
    obtain ⟨ca, fa, za⟩ := HT.out.a
    obtain ⟨cb, fb, zb⟩ := HT.out.b

    go_wp2_with fail
    clear ca fa za cb fb zb
    refine (HL.out _).mono ?_
    rintro e wz ⟨rfl, hbz⟩
    have HT := Lib.hid (HT.out.later hbz)
    clear hbz
    go_wp2
    go_ret
    exact ⟨rfl, HT.out.low⟩
  | true =>
    obtain ⟨⟨n10, n11, n12, n13, t10, qU⟩, gh1⟩ := hbL rfl
    have LE1 := Lib.hid (leP_light HZA.out t10 (by rw [EZ1.out]; exact qU) gh1)
    have nq1 : (zs.map (·.1)).length ≤ 30 := by rw [List.length_map, ← List.length_map (f := qz), EZ1.out]; exact n13
    have T1 := Lib.hid t10
    have G1 := Lib.hid gh1
    clear hbL qU t10 gh1 HZA
    have HZB := Lib.hid (HZ2.out.below HT.out.low)
    obtain ⟨ca, fa, za⟩ := HT.out.a
    obtain ⟨cb, fb, zb⟩ := HT.out.b
    go_wp2_with fail
    clear ca fa za cb fb zb
    refine (L2.out _ HT.out.low).mono ?_
    rintro e w3 ⟨⟨bL, rfl, hbL⟩, hb3⟩
    have HT := Lib.hid (HT.out.later hb3)
    clear hb3 L2
    cases bL with
    | false =>
      clear hbL
      obtain ⟨ca, fa, za⟩ := HT.out.a
      obtain ⟨cb, fb, zb⟩ := HT.out.b

      go_wp2_with fail
      clear ca fa za cb fb zb
      refine (HL.out _).mono ?_
      rintro e wz ⟨rfl, hbz⟩
      have HT := Lib.hid (HT.out.later hbz)
      clear hbz
      go_wp2
      go_ret
      exact ⟨rfl, HT.out.low⟩
    | true =>
      obtain ⟨⟨n20, n21, n22, n23, t20, qU⟩, gh2⟩ := hbL rfl
      have LE2 := Lib.hid (leP_light HZB.out t20 (by rw [EZ2.out]; exact qU) gh2)
      have nq2 : (zt.map (·.1)).length ≤ 30 := by rw [List.length_map, ← List.length_map (f := qz), EZ2.out]; exact n23
      have T2 := Lib.hid t20
      have G2 := Lib.hid gh2
      clear hbL qU t20 gh2 HZB
      obtain ⟨ca, fa, za⟩ := HT.out.a
      obtain ⟨cb, fb, zb⟩ := HT.out.b
      go_wp2_with fail
      clear ca fa za cb fb zb
      refine (L3.out _ HT.out.low).mono ?_
      rintro e w4 ⟨⟨bL, rfl, hbL⟩, hw4⟩
      subst hw4
      clear L3
      cases bL with
      | false =>
        clear hbL
        obtain ⟨ca, fa, za⟩ := HT.out.a
        obtain ⟨cb, fb, zb⟩ := HT.out.b

        go_wp2_with fail
        clear ca fa za cb fb zb
        refine (HL.out _).mono ?_
        rintro e wz ⟨rfl, hbz⟩
        have HT := Lib.hid (HT.out.later hbz)
        clear hbz
        go_wp2
        go_ret
        exact ⟨rfl, HT.out.low⟩
      | true =>
        obtain ⟨nl, sl⟩ := hbL rfl
        have SL := Lib.hid sl
        clear hbL sl
        obtain ⟨BA, hBA⟩ : ∃ B : Bool, B = true ↔ RightD ⟨l1, g1, h1, zs.map (·.1)⟩ := by classical exact ⟨decide (RightD ⟨l1, g1, h1, zs.map (·.1)⟩), by simp⟩
        obtain ⟨BB, hBB⟩ : ∃ B : Bool, B = true ↔ RightD ⟨l2, g2, h2, zt.map (·.1)⟩ := by classical exact ⟨decide (RightD ⟨l2, g2, h2, zt.map (·.1)⟩), by simp⟩
        have RA := Lib.hid (fun W (hb : Below w.heap.size w W) => ref5_RightB (HZ1.out.below hb) LE1.out n10 n11 n12 nq1 hBA)
        have RB := Lib.hid (fun W (hb : Below w.heap.size w W) => ref5_RightB (HZ2.out.below hb) LE2.out n20 n21 n22 nq2 hBB)
        have ARA := Lib.hid hBA
        have ARB := Lib.hid hBB
        have OF := Lib.hid (fun W (hb : Below w.heap.size w W) => ref32_Of (.slice a0 l1.length c0) (.slice a1 g1.length c1) (.slice a2 h1.length c2) (.slice a3 q1.length c3) (.slice b0 l2.length d0) (.slice b1 g2.length d1) (.slice b2 h2.length d2) (.slice b3 q2.length d3) l1 l2 g1 h1 g2 h2 q1 q2 W (HP1.out.below hb) (HP2.out.below hb) (by omega) (by omega) (by omega) (by omega) (by omega) (by omega))
        have DLE0 := Lib.hid ((Dl.of_le (l1 := l1) (l2 := l2) (g1 := g1) (h1 := h1) (g2 := g2) (h2 := h2) (k := 30) (m := 40) n10 n20 n11 n21 n12 n22 T1.out T2.out (fun x hx => G1.out x (List.mem_append_left _ hx)) (fun x hx => G2.out x (List.mem_append_left _ hx)) (fun x hx => G1.out x (List.mem_append_right _ hx)) (fun x hx => G2.out x (List.mem_append_right _ hx))).mono (k' := 300) (m' := 4294967) (by decide) (by decide))
        have RP := Lib.hid (fun W (hb : Below w.heap.size w W) => delta_Read (.slice ao l.length ac) l W (HG.out.below hb) (HA.out.below hb) (by omega) (fun s hs => Nat.le_trans (SL.out s hs) (by decide)))
        have RLN := Lib.hid (fun h => readD_lines (l := l) h)
        have RLE := Lib.hid (fun h => readD_le (l := l) h nl)
        have RWR := Lib.hid (readD_wrong l)
        clear hBA hBB LE1 LE2 T1 T2 G1 G2 HZ1 HZ2 EZ1 EZ2 HP1 HP2 nq1 nq2 n10 n11 n12 n13 n20 n21 n22 n23
        obtain ⟨ca, fa, za⟩ := HT.out.a
        obtain ⟨cb, fb, zb⟩ := HT.out.b
        go_wp2_with fail
        clear ca fa za cb fb zb
        refine (RP.out _ HT.out.low).mono ?_
        rintro e w5 ⟨x0, x1, x2, x3, x4, x5, rfl, hx, hb5⟩
        have HT := Lib.hid (HT.out.later hb5)
        clear hb5 RP
        generalize readD l = rr at *
        obtain ⟨d, at_⟩ := rr
        dsimp only at hx RLN RLE RWR ⊢
        have HX := Lib.hid hx
        obtain ⟨xa0, xc0, rfl⟩ := hx.a0.form
        obtain ⟨xa1, xc1, rfl⟩ := hx.a1.form
        obtain ⟨xa2, xc2, rfl⟩ := hx.a2.form
        obtain ⟨xa3, xc3, rfl⟩ := hx.a3.form
        obtain ⟨xa4, xc4, rfl⟩ := hx.a4.form
        obtain ⟨xa5, xc5, rfl⟩ := hx.a5.form
        clear hx
        have hba := (Below.refl w5.heap.size w5).alloc (Nat.le_refl _) (.cells #[.slice xa0 d.more.length xc0, .slice xa1 d.gone.length xc1, .slice xa2 d.grow.length xc2, .slice xa3 d.ungrow.length xc3, .slice xa4 d.shrink.length xc4, .slice xa5 d.unshrink.length xc5] 32)
        have HX7 := Lib.hid (Blk.new w5 #[.slice xa0 d.more.length xc0, .slice xa1 d.gone.length xc1, .slice xa2 d.grow.length xc2, .slice xa3 d.ungrow.length xc3, .slice xa4 d.shrink.length xc4, .slice xa5 d.unshrink.length xc5] 32)
        by_cases h0 : at_ = 0
        · subst h0
          have RL := Lib.hid (RLN.out rfl)
          have DLx := Lib.hid (RLE.out rfl)
          clear RLN RLE RWR
          have HX9 := Lib.hid (Blk.new (w5.alloc (.cells #[.slice xa0 d.more.length xc0, .slice xa1 d.gone.length xc1, .slice xa2 d.grow.length xc2, .slice xa3 d.ungrow.length xc3, .slice xa4 d.shrink.length xc4, .slice xa5 d.unshrink.length xc5] 32)) #[.slice xa0 d.more.length xc0, .slice xa1 d.gone.length xc1, .slice xa2 d.grow.length xc2, .slice xa3 d.ungrow.length xc3, .slice xa4 d.shrink.length xc4, .slice xa5 d.unshrink.length xc5] 35)
          have hbb := (Below.refl (w5.alloc (.cells #[.slice xa0 d.more.length xc0, .slice xa1 d.gone.length xc1, .slice xa2 d.grow.length xc2, .slice xa3 d.ungrow.length xc3, .slice xa4 d.shrink.length xc4, .slice xa5 d.unshrink.length xc5] 32)).heap.size (w5.alloc (.cells #[.slice xa0 d.more.length xc0, .slice xa1 d.gone.length xc1, .slice xa2 d.grow.length xc2, .slice xa3 d.ungrow.length xc3, .slice xa4 d.shrink.length xc4, .slice xa5 d.unshrink.length xc5] 32))).alloc (Nat.le_refl _) (.cells #[.slice xa0 d.more.length xc0, .slice xa1 d.gone.length xc1, .slice xa2 d.grow.length xc2, .slice xa3 d.ungrow.length xc3, .slice xa4 d.shrink.length xc4, .slice xa5 d.unshrink.length xc5] 35)
          have HT := Lib.hid ((HT.out.later hba).later hbb)
          have HX := Lib.hid ((HX.out.below hba).below hbb)
          rw [World.size_alloc] at HX9
          obtain ⟨gx, hgx⟩ : ∃ g, g = w5.heap.size + 1 := ⟨_, rfl⟩
          obtain ⟨w6, hw6⟩ : ∃ V, V = (w5.alloc (.cells #[.slice xa0 d.more.length xc0, .slice xa1 d.gone.length xc1, .slice xa2 d.grow.length xc2, .slice xa3 d.ungrow.length xc3, .slice xa4 d.shrink.length xc4, .slice xa5 d.unshrink.length xc5] 32)).alloc (.cells #[.slice xa0 d.more.length xc0, .slice xa1 d.gone.length xc1, .slice xa2 d.grow.length xc2, .slice xa3 d.ungrow.length xc3, .slice xa4 d.shrink.length xc4, .slice xa5 d.unshrink.length xc5] 35) := ⟨_, rfl⟩
          rw [← hw6] at HT HX HX9
          rw [← hgx] at HX9
          clear hba hbb HX7
          go_upto_region 6 with fail
          rw [← hw6, ← hgx]
          clear hw6 hgx
          have HT := Lib.hid HT.out.drew
          have HX9 := Lib.hid (HX9.out.below (below_drew (Below.refl w6.heap.size w6)))
          have HX := Lib.hid (HX.out.below (below_drew (Below.refl w6.heap.size w6)))
          refine wp_region_held_drew (S := (fun W => (∀ o, W.cell? ⟨gx, o, none⟩ = (#[.slice xa0 d.more.length xc0, .slice xa1 d.gone.length xc1, .slice xa2 d.grow.length xc2, .slice xa3 d.ungrow.length xc3, .slice xa4 d.shrink.length xc4, .slice xa5 d.unshrink.length xc5] : Array Value)[o]?))) (by kernel_rfl) (HX9.out.1) (fun hHeld => ?_)
          obtain ⟨wk, hwk⟩ : ∃ V, V = w6.drew := ⟨_, rfl⟩
          rw [← hwk] at HT HX9 HX hHeld ⊢
          clear hwk
          (refine hyes 0 ?_); (refine hyes 2 ?_); (try simp only [Act.put, List.setIfInBounds_toArray, List.set])
          have RL6 := Lib.hid (ref32_Lines (.slice xa0 d.more.length xc0) (.slice xa1 d.gone.length xc1) (.slice xa2 d.grow.length xc2) (.slice xa3 d.ungrow.length xc3) (.slice xa4 d.shrink.length xc4) (.slice xa5 d.unshrink.length xc5) d wk HX.out DLx.out)
          (refine held_call 1 rfl (by kernel_rfl) (fun K hK => ?_); go_simp)
          go_at_call 14; refine (RL6.out).mono ?_; rintro e wq4 ⟨x, rfl, hs, hbq⟩; have HT := Lib.hid (HT.out.later hbq); have HX9 := Lib.hid (HX9.out.below hbq); have HX := Lib.hid (HX.out.below hbq); have HS1 := Lib.hid hs.a; clear hs; clear hbq
          (refine hK.out _ _ (HX9.out.1) (fun hHeld => ?_); clear hK K; (try simp only [Act.put, List.setIfInBounds_toArray, List.set]))
          rw [RL.out.1] at HS1
          (refine held_call 3 rfl (by kernel_rfl) (fun K hK => ?_); go_simp)
          go_at_call 13; refine (ref1_SameB _ _ l _ HS1.out (HA.out.below HT.out.low)).mono ?_; rintro e wq5 ⟨rfl, hbq⟩; have HT := Lib.hid (HT.out.later hbq); have HX9 := Lib.hid (HX9.out.below hbq); have HX := Lib.hid (HX.out.below hbq); clear hbq
          (refine hK.out _ _ (HX9.out.1) (fun hHeld => ?_); clear hK K; (try simp only [Act.put, List.setIfInBounds_toArray, List.set]))
          clear HS1
          (refine hyes 4 ?_); (refine hyes 5 ?_); (refine hyes 6 ?_); (refine hyes 7 ?_); (refine hyes 8 ?_); (refine hyes 9 ?_); (try simp only [Act.put, List.setIfInBounds_toArray, List.set])
          (refine held_call 10 rfl (by kernel_rfl) (fun K hK => ?_); go_simp)
          go_at_call 16; refine (ref3_Sort _ d.more _ HX.out.a0 (by have := DLx.out.n0; omega)).mono ?_; rintro e wq6 ⟨x, rfl, hs, hbq⟩; have HT := Lib.hid (HT.out.later hbq); have HX9 := Lib.hid (HX9.out.below hbq); have HX := Lib.hid (HX.out.below hbq); have HS1 := Lib.hid hs.a; clear hs; clear hbq
          (refine hK.out _ _ (HX9.out.1) (fun hHeld => ?_); clear hK K; (try simp only [Act.put, List.setIfInBounds_toArray, List.set]))
          rw [RL.out.2.1] at HS1
          (refine held_call 11 rfl (by kernel_rfl) (fun K hK => ?_); go_simp)
          go_at_call 15; refine (ref3_SameT _ _ d.more _ HX.out.a0 HS1.out).mono ?_; rintro e wq7 ⟨rfl, hbq⟩; have HT := Lib.hid (HT.out.later hbq); have HX9 := Lib.hid (HX9.out.below hbq); have HX := Lib.hid (HX.out.below hbq); clear hbq
          (refine hK.out _ _ (HX9.out.1) (fun hHeld => ?_); clear hK K; (try simp only [Act.put, List.setIfInBounds_toArray, List.set]))
          clear HS1
          (refine hyes 12 ?_); (refine hyes 13 ?_); (refine hyes 14 ?_); (refine hyes 15 ?_); (refine hyes 16 ?_); (refine hyes 17 ?_); (refine hyes 18 ?_); (try simp only [Act.put, List.setIfInBounds_toArray, List.set])
          (refine held_call 19 rfl (by kernel_rfl) (fun K hK => ?_); go_simp)
          go_at_call 16; refine (ref3_Sort _ d.gone _ HX.out.a1 (by have := DLx.out.n1; omega)).mono ?_; rintro e wq8 ⟨x, rfl, hs, hbq⟩; have HT := Lib.hid (HT.out.later hbq); have HX9 := Lib.hid (HX9.out.below hbq); have HX := Lib.hid (HX.out.below hbq); have HS1 := Lib.hid hs.a; clear hs; clear hbq
          (refine hK.out _ _ (HX9.out.1) (fun hHeld => ?_); clear hK K; (try simp only [Act.put, List.setIfInBounds_toArray, List.set]))
          rw [RL.out.2.2.1] at HS1
          (refine held_call 20 rfl (by kernel_rfl) (fun K hK => ?_); go_simp)
          go_at_call 15; refine (ref3_SameT _ _ d.gone _ HX.out.a1 HS1.out).mono ?_; rintro e wq9 ⟨rfl, hbq⟩; have HT := Lib.hid (HT.out.later hbq); have HX9 := Lib.hid (HX9.out.below hbq); have HX := Lib.hid (HX.out.below hbq); clear hbq
          (refine hK.out _ _ (HX9.out.1) (fun hHeld => ?_); clear hK K; (try simp only [Act.put, List.setIfInBounds_toArray, List.set]))
          clear HS1
          (refine hyes 21 ?_); (refine hyes 22 ?_); (refine hyes 23 ?_); (refine hyes 24 ?_); (refine hyes 25 ?_); (refine hyes 26 ?_); (refine hyes 27 ?_); (try simp only [Act.put, List.setIfInBounds_toArray, List.set])
          (refine held_call 28 rfl (by kernel_rfl) (fun K hK => ?_); go_simp)
          go_at_call 18; refine (ref5_Sort _ d.grow _ HX.out.a2 (by have := DLx.out.n2; omega)).mono ?_; rintro e wq10 ⟨x, rfl, hs, hbq⟩; have HT := Lib.hid (HT.out.later hbq); have HX9 := Lib.hid (HX9.out.below hbq); have HX := Lib.hid (HX.out.below hbq); have HS1 := Lib.hid hs.a; clear hs; clear hbq
          (refine hK.out _ _ (HX9.out.1) (fun hHeld => ?_); clear hK K; (try simp only [Act.put, List.setIfInBounds_toArray, List.set]))
          rw [RL.out.2.2.2] at HS1
          have SRX := Lib.hid (ref3_SameRolesE _ _ d.grow d.grow _ HX.out.a2 HS1.out)
          rw [decide_eq_true (rfl : d.grow = d.grow)] at SRX
          (refine held_call 29 rfl (by kernel_rfl) (fun K hK => ?_); go_simp)
          go_at_call 17; refine (SRX.out).mono ?_; rintro e wq11 ⟨rfl, hbq⟩; have HT := Lib.hid (HT.out.later hbq); have HX9 := Lib.hid (HX9.out.below hbq); have HX := Lib.hid (HX.out.below hbq); clear hbq
          (refine hK.out _ _ (HX9.out.1) (fun hHeld => ?_); clear hK K; (try simp only [Act.put, List.setIfInBounds_toArray, List.set]))
          clear HS1 SRX
          (refine hyes 30 ?_); (refine hyes 31 ?_); (try simp only [Act.put, List.setIfInBounds_toArray, List.set])
          refine wpAnyH_done (by kernel_rfl) ?_ _
          clear hHeld HX9 HX RL DLx
          obtain ⟨ca, fa, za⟩ := HT.out.a
          obtain ⟨cb, fb, zb⟩ := HT.out.b

          go_wp2_with fail
          clear ca fa za cb fb zb
          refine (RA.out _ HT.out.low).mono ?_
          rintro e wra ⟨rfl, hbra⟩
          have HT := Lib.hid (HT.out.later hbra)
          clear hbra RA
          cases BA with
          | false =>
            clear ARA
            obtain ⟨ca, fa, za⟩ := HT.out.a
            obtain ⟨cb, fb, zb⟩ := HT.out.b

            go_wp2_with fail
            clear ca fa za cb fb zb
            refine (HL.out _).mono ?_
            rintro e wz ⟨rfl, hbz⟩
            have HT := Lib.hid (HT.out.later hbz)
            clear hbz
            go_wp2
            go_ret
            exact ⟨rfl, HT.out.low⟩
          | true =>
            have RDA := ARA.out.1 rfl
            obtain ⟨ca, fa, za⟩ := HT.out.a
            obtain ⟨cb, fb, zb⟩ := HT.out.b
            go_wp2_with fail
            clear ca fa za cb fb zb
            refine (RB.out _ HT.out.low).mono ?_
            rintro e wrb ⟨rfl, hbrb⟩
            have HT := Lib.hid (HT.out.later hbrb)
            clear hbrb RB
            cases BB with
            | false =>
              clear ARB
              obtain ⟨ca, fa, za⟩ := HT.out.a
              obtain ⟨cb, fb, zb⟩ := HT.out.b

              go_wp2_with fail
              clear ca fa za cb fb zb
              refine (HL.out _).mono ?_
              rintro e wz ⟨rfl, hbz⟩
              have HT := Lib.hid (HT.out.later hbz)
              clear hbz
              go_wp2
              go_ret
              exact ⟨rfl, HT.out.low⟩
            | true =>
              have RDB := ARB.out.1 rfl
              have GL := Lib.hid (goodD_of RDA RDB)
              clear RDA RDB ARA ARB
              have DLE := Lib.hid DLE0.out
              have LS := Lib.hid (lines_small GL.out DLE.out)
              have RBK := Lib.hid (readD_back GL.out)
              generalize Dl.of l1 g1 h1 l2 g2 h2 = dd at *
              obtain ⟨ca, fa, za⟩ := HT.out.a
              obtain ⟨cb, fb, zb⟩ := HT.out.b
              go_wp2_with fail
              clear ca fa za cb fb zb
              refine (OF.out _ HT.out.low).mono ?_
              rintro e wo ⟨z, rfl, ⟨z0, z1, z2, z3, z4, z5, rfl, hz⟩, hbo⟩
              have HT := Lib.hid (HT.out.later hbo)
              have HZ := Lib.hid hz
              obtain ⟨za0, zc0, rfl⟩ := hz.a0.form
              obtain ⟨za1, zc1, rfl⟩ := hz.a1.form
              obtain ⟨za2, zc2, rfl⟩ := hz.a2.form
              obtain ⟨za3, zc3, rfl⟩ := hz.a3.form
              obtain ⟨za4, zc4, rfl⟩ := hz.a4.form
              obtain ⟨za5, zc5, rfl⟩ := hz.a5.form
              clear hz hbo
              go_wp2_with fail
              have RLd := Lib.hid (ref32_Lines (.slice za0 dd.more.length zc0) (.slice za1 dd.gone.length zc1) (.slice za2 dd.grow.length zc2) (.slice za3 dd.ungrow.length zc3) (.slice za4 dd.shrink.length zc4) (.slice za5 dd.unshrink.length zc5) dd wo HZ.out DLE.out)
              refine RLd.out.mono ?_
              rintro e wl ⟨v, rfl, hv, hbl⟩
              have HT := Lib.hid (HT.out.later hbl)
              have HV := Lib.hid hv.a
              obtain ⟨va2, vc2, rfl⟩ := hv.form
              clear hv hbl HZ RLd
              have RDd := Lib.hid (delta_Read (.slice va2 dd.lines.length vc2) dd.lines wl (HG.out.below HT.out.low) HV.out LS.out.1 LS.out.2)
              go_wp2_with fail
              refine RDd.out.mono ?_
              clear RDd
              rintro e wr ⟨y0, y1, y2, y3, y4, y5, rfl, hy, hbr⟩
              rw [RBK.out] at hy ⊢
              dsimp only at hy ⊢
              have HT := Lib.hid (HT.out.later hbr)
              have HY := Lib.hid hy
              obtain ⟨ya0, yc0, rfl⟩ := hy.a0.form
              obtain ⟨ya1, yc1, rfl⟩ := hy.a1.form
              obtain ⟨ya2, yc2, rfl⟩ := hy.a2.form
              obtain ⟨ya3, yc3, rfl⟩ := hy.a3.form
              obtain ⟨ya4, yc4, rfl⟩ := hy.a4.form
              obtain ⟨ya5, yc5, rfl⟩ := hy.a5.form
              clear hy hbr HV RBK LS
              have HD := Lib.hid (Blk.new wr #[.slice ya0 dd.more.length yc0, .slice ya1 dd.gone.length yc1, .slice ya2 dd.grow.length yc2, .slice ya3 dd.ungrow.length yc3, .slice ya4 dd.shrink.length yc4, .slice ya5 dd.unshrink.length yc5] 32)
              have hba := (Below.refl wr.heap.size wr).alloc (Nat.le_refl _) (.cells #[.slice ya0 dd.more.length yc0, .slice ya1 dd.gone.length yc1, .slice ya2 dd.grow.length yc2, .slice ya3 dd.ungrow.length yc3, .slice ya4 dd.shrink.length yc4, .slice ya5 dd.unshrink.length yc5] 32)
              have HT := Lib.hid (HT.out.later hba)
              have HY := Lib.hid (HY.out.below hba)
              clear hba
              obtain ⟨gd, hgd⟩ : ∃ g, g = wr.heap.size := ⟨_, rfl⟩
              obtain ⟨ws, hws⟩ : ∃ V, V = wr.alloc (.cells #[.slice ya0 dd.more.length yc0, .slice ya1 dd.gone.length yc1, .slice ya2 dd.grow.length yc2, .slice ya3 dd.ungrow.length yc3, .slice ya4 dd.shrink.length yc4, .slice ya5 dd.unshrink.length yc5] 32) := ⟨_, rfl⟩
              rw [← hws] at HD HT HY
              rw [← hgd] at HD
              go_upto_region 16 with fail
              rw [← hws, ← hgd]
              clear hws hgd
              have HT := Lib.hid HT.out.drew
              have HD := Lib.hid (HD.out.below (below_drew (Below.refl ws.heap.size ws)))
              have HY := Lib.hid (HY.out.below (below_drew (Below.refl ws.heap.size ws)))
              refine wp_region_held_drew (S := (fun W => (∀ o, W.cell? ⟨w.heap.size, o, none⟩ = (#[.slice a0 l1.length c0, .slice a1 g1.length c1, .slice a2 h1.length c2, .slice a3 q1.length c3] : Array Value)[o]?) ∧ (∀ o, W.cell? ⟨w.heap.size + 1, o, none⟩ = (#[.slice b0 l2.length d0, .slice b1 g2.length d1, .slice b2 h2.length d2, .slice b3 q2.length d3] : Array Value)[o]?) ∧ (∀ o, W.cell? ⟨gd, o, none⟩ = (#[.slice ya0 dd.more.length yc0, .slice ya1 dd.gone.length yc1, .slice ya2 dd.grow.length yc2, .slice ya3 dd.ungrow.length yc3, .slice ya4 dd.shrink.length yc4, .slice ya5 dd.unshrink.length yc5] : Array Value)[o]?))) (by kernel_rfl) ⟨HT.out.a.1, HT.out.b.1, HD.out.1⟩ (fun hHeld => ?_)
              obtain ⟨wk, hwk⟩ : ∃ V, V = ws.drew := ⟨_, rfl⟩
              rw [← hwk] at HT HD HY hHeld ⊢
              clear hwk
              (refine hyes 0 ?_); (refine hyes 1 ?_); (refine hyes 2 ?_); (refine hyes 3 ?_); (refine hyes 4 ?_); (refine hyes 5 ?_); (try simp only [Act.put, List.setIfInBounds_toArray, List.set])
              (refine held_call 6 rfl (by kernel_rfl) (fun K hK => ?_); go_simp)
              go_at_call 21; refine (OF.out _ HT.out.low).mono ?_; rintro e wq1 ⟨z, rfl, ⟨z0, z1, z2, z3, z4, z5, rfl, hz⟩, hbq⟩; have HT := Lib.hid (HT.out.later hbq); have HD := Lib.hid (HD.out.below hbq); have HY := Lib.hid (HY.out.below hbq); have HZ := Lib.hid hz; obtain ⟨za0, zc0, rfl⟩ := hz.a0.form; obtain ⟨za1, zc1, rfl⟩ := hz.a1.form; obtain ⟨za2, zc2, rfl⟩ := hz.a2.form; obtain ⟨za3, zc3, rfl⟩ := hz.a3.form; obtain ⟨za4, zc4, rfl⟩ := hz.a4.form; obtain ⟨za5, zc5, rfl⟩ := hz.a5.form; clear hz; clear hbq
              (refine hK.out _ _ (⟨HT.out.a.1, HT.out.b.1, HD.out.1⟩) (fun hHeld => ?_); clear hK K; (try simp only [Act.put, List.setIfInBounds_toArray, List.set]))
              have SMD := Lib.hid (ref32_Same (.slice ya0 dd.more.length yc0) (.slice ya1 dd.gone.length yc1) (.slice ya2 dd.grow.length yc2) (.slice ya3 dd.ungrow.length yc3) (.slice ya4 dd.shrink.length yc4) (.slice ya5 dd.unshrink.length yc5) (.slice za0 dd.more.length zc0) (.slice za1 dd.gone.length zc1) (.slice za2 dd.grow.length zc2) (.slice za3 dd.ungrow.length zc3) (.slice za4 dd.shrink.length zc4) (.slice za5 dd.unshrink.length zc5) dd dd wq1 HY.out HZ.out)
              rw [dd.eqv_self] at SMD
              (refine held_call 7 rfl (by kernel_rfl) (fun K hK => ?_); go_simp)
              go_at_call 22; refine (SMD.out).mono ?_; rintro e wq2 ⟨rfl, hbq⟩; have HT := Lib.hid (HT.out.later hbq); have HD := Lib.hid (HD.out.below hbq); clear hbq
              (refine hK.out _ _ (⟨HT.out.a.1, HT.out.b.1, HD.out.1⟩) (fun hHeld => ?_); clear hK K; (try simp only [Act.put, List.setIfInBounds_toArray, List.set]))
              clear SMD HZ HY
              (refine hyes 8 ?_); (refine hyes 9 ?_); (try simp only [Act.put, List.setIfInBounds_toArray, List.set])
              (refine held_call 10 rfl (by kernel_rfl) (fun K hK => ?_); go_simp)
              go_at_call 11; refine (HL.out _).mono ?_; rintro e wq3 ⟨rfl, hbq⟩; have HT := Lib.hid (HT.out.later hbq); have HD := Lib.hid (HD.out.below hbq); clear hbq
              (refine hK.out _ _ (⟨HT.out.a.1, HT.out.b.1, HD.out.1⟩) (fun hHeld => ?_); clear hK K; (try simp only [Act.put, List.setIfInBounds_toArray, List.set]))
              (refine hyes 11 ?_); (refine hyes 12 ?_); (try simp only [Act.put, List.setIfInBounds_toArray, List.set])
              refine wpAnyH_done (by kernel_rfl) ?_ _
              go_wp2
              go_ret
              exact ⟨rfl, HT.out.low⟩
        · obtain ⟨hd, k, hkl, hat, hk0⟩ : d = noDl ∧ ∃ k, k < l.length ∧ at_ = (k : Int) + 1 ∧ (readD (l.take k)).2 = 0 := by
            rcases RWR.out with h | h
            · exact absurd h h0
            · exact h
          subst hd hat
          clear RLN RLE RWR h0
          have e1 : decide ((k : Int) + 1 < 1) = false := decide_eq_false (by omega)
          have e2 : decide ((l.length : Int) < (k : Int) + 1) = false := decide_eq_false (by omega)
          have e3 : (((k : Int) + 1) == 0) = false := by rw [beq_eq_false_iff_ne]; omega
          have e4 : IntKind.i64.wrap ((k : Int) + 1 - 1) = (k : Int) := by rw [show (k : Int) + 1 - 1 = (k : Int) by omega]; exact Go.IntWalk.i64_in _ (by omega)
          have EM := Lib.hid (fun W (hx : DlAt W (.slice xa0 noDl.more.length xc0) (.slice xa1 noDl.gone.length xc1) (.slice xa2 noDl.grow.length xc2) (.slice xa3 noDl.ungrow.length xc3) (.slice xa4 noDl.shrink.length xc4) (.slice xa5 noDl.unshrink.length xc5) noDl) => delta_Empty (.slice xa0 noDl.more.length xc0) (.slice xa1 noDl.gone.length xc1) (.slice xa2 noDl.grow.length xc2) (.slice xa3 noDl.ungrow.length xc3) (.slice xa4 noDl.shrink.length xc4) (.slice xa5 noDl.unshrink.length xc5) noDl 0 4294967 W hx (by constructor <;> first | (intro x hx; cases hx) | decide))
          have hbb := (Below.refl (w5.alloc (.cells #[.slice xa0 noDl.more.length xc0, .slice xa1 noDl.gone.length xc1, .slice xa2 noDl.grow.length xc2, .slice xa3 noDl.ungrow.length xc3, .slice xa4 noDl.shrink.length xc4, .slice xa5 noDl.unshrink.length xc5] 32)).heap.size (w5.alloc (.cells #[.slice xa0 noDl.more.length xc0, .slice xa1 noDl.gone.length xc1, .slice xa2 noDl.grow.length xc2, .slice xa3 noDl.ungrow.length xc3, .slice xa4 noDl.shrink.length xc4, .slice xa5 noDl.unshrink.length xc5] 32))).alloc (Nat.le_refl _) (.cells #[.slice xa0 noDl.more.length xc0, .slice xa1 noDl.gone.length xc1, .slice xa2 noDl.grow.length xc2, .slice xa3 noDl.ungrow.length xc3, .slice xa4 noDl.shrink.length xc4, .slice xa5 noDl.unshrink.length xc5] 35)
          have HT := Lib.hid ((HT.out.later hba).later hbb)
          have HX := Lib.hid ((HX.out.below hba).below hbb)
          have HX7 := Lib.hid (HX7.out.below hbb)
          clear hba hbb
          obtain ⟨c7, f7, z7⟩ := HX7.out
          go_wp2_with fail
          clear c7 f7 z7
          refine (EM.out _ HX.out).mono ?_
          rintro e w7 ⟨rfl, hb7⟩
          rw [show noDl.none = true from rfl]
          have HT := Lib.hid (HT.out.later hb7)
          clear hb7 EM HX HX7
          obtain ⟨bq1, oq1, cc1, he1, hc1, hm1, hbq1, hx1⟩ := (HA.out.below HT.out.low).pos (by omega)
          simp only [Value.slice.injEq, true_and] at he1
          obtain ⟨rfl, rfl⟩ := he1
          have HA2 := Lib.hid (SlA.frontT (n := k) (HA.out.below HT.out.low) (by omega))
          have RP2 := Lib.hid (delta_Read _ (l.take k) _ (HG.out.below HT.out.low) (show SlA w7 1 (.slice (some ⟨bq1, oq1, none⟩) k ac) (l.take k).length (strs (l.take k)) by rw [List.length_take, Nat.min_eq_left (by omega)]; exact HA2.out) (by rw [List.length_take]; omega) (fun s hs => Nat.le_trans (SL.out s (List.mem_of_mem_take hs)) (by decide)))
          clear hx1 hbq1
          go_wp2_with fail
          refine RP2.out.mono ?_
          rintro e w8 ⟨y0, y1, y2, y3, y4, y5, rfl, hy, hb8⟩
          rw [hk0]
          have HT := Lib.hid (HT.out.later hb8)
          generalize (readD (l.take k)).1 = d' at hy
          obtain ⟨ya0, yc0, rfl⟩ := hy.a0.form
          obtain ⟨ya1, yc1, rfl⟩ := hy.a1.form
          obtain ⟨ya2, yc2, rfl⟩ := hy.a2.form
          obtain ⟨ya3, yc3, rfl⟩ := hy.a3.form
          obtain ⟨ya4, yc4, rfl⟩ := hy.a4.form
          obtain ⟨ya5, yc5, rfl⟩ := hy.a5.form
          have HT := Lib.hid (HT.out.alloc (.cells #[.slice ya0 d'.more.length yc0, .slice ya1 d'.gone.length yc1, .slice ya2 d'.grow.length yc2, .slice ya3 d'.ungrow.length yc3, .slice ya4 d'.shrink.length yc4, .slice ya5 d'.unshrink.length yc5] 32))
          clear hy hb8 RP2 HA2 hk0 e1 e2 e3 e4
          obtain ⟨ca, fa, za⟩ := HT.out.a
          obtain ⟨cb, fb, zb⟩ := HT.out.b

          go_wp2_with fail
          clear ca fa za cb fb zb
          refine (RA.out _ HT.out.low).mono ?_
          rintro e wra ⟨rfl, hbra⟩
          have HT := Lib.hid (HT.out.later hbra)
          clear hbra RA
          cases BA with
          | false =>
            clear ARA
            obtain ⟨ca, fa, za⟩ := HT.out.a
            obtain ⟨cb, fb, zb⟩ := HT.out.b

            go_wp2_with fail
            clear ca fa za cb fb zb
            refine (HL.out _).mono ?_
            rintro e wz ⟨rfl, hbz⟩
            have HT := Lib.hid (HT.out.later hbz)
            clear hbz
            go_wp2
            go_ret
            exact ⟨rfl, HT.out.low⟩
          | true =>
            have RDA := ARA.out.1 rfl
            obtain ⟨ca, fa, za⟩ := HT.out.a
            obtain ⟨cb, fb, zb⟩ := HT.out.b
            go_wp2_with fail
            clear ca fa za cb fb zb
            refine (RB.out _ HT.out.low).mono ?_
            rintro e wrb ⟨rfl, hbrb⟩
            have HT := Lib.hid (HT.out.later hbrb)
            clear hbrb RB
            cases BB with
            | false =>
              clear ARB
              obtain ⟨ca, fa, za⟩ := HT.out.a
              obtain ⟨cb, fb, zb⟩ := HT.out.b

              go_wp2_with fail
              clear ca fa za cb fb zb
              refine (HL.out _).mono ?_
              rintro e wz ⟨rfl, hbz⟩
              have HT := Lib.hid (HT.out.later hbz)
              clear hbz
              go_wp2
              go_ret
              exact ⟨rfl, HT.out.low⟩
            | true =>
              have RDB := ARB.out.1 rfl
              have GL := Lib.hid (goodD_of RDA RDB)
              clear RDA RDB ARA ARB
              have DLE := Lib.hid DLE0.out
              have LS := Lib.hid (lines_small GL.out DLE.out)
              have RBK := Lib.hid (readD_back GL.out)
              generalize Dl.of l1 g1 h1 l2 g2 h2 = dd at *
              obtain ⟨ca, fa, za⟩ := HT.out.a
              obtain ⟨cb, fb, zb⟩ := HT.out.b
              go_wp2_with fail
              clear ca fa za cb fb zb
              refine (OF.out _ HT.out.low).mono ?_
              rintro e wo ⟨z, rfl, ⟨z0, z1, z2, z3, z4, z5, rfl, hz⟩, hbo⟩
              have HT := Lib.hid (HT.out.later hbo)
              have HZ := Lib.hid hz
              obtain ⟨za0, zc0, rfl⟩ := hz.a0.form
              obtain ⟨za1, zc1, rfl⟩ := hz.a1.form
              obtain ⟨za2, zc2, rfl⟩ := hz.a2.form
              obtain ⟨za3, zc3, rfl⟩ := hz.a3.form
              obtain ⟨za4, zc4, rfl⟩ := hz.a4.form
              obtain ⟨za5, zc5, rfl⟩ := hz.a5.form
              clear hz hbo
              go_wp2_with fail
              have RLd := Lib.hid (ref32_Lines (.slice za0 dd.more.length zc0) (.slice za1 dd.gone.length zc1) (.slice za2 dd.grow.length zc2) (.slice za3 dd.ungrow.length zc3) (.slice za4 dd.shrink.length zc4) (.slice za5 dd.unshrink.length zc5) dd wo HZ.out DLE.out)
              refine RLd.out.mono ?_
              rintro e wl ⟨v, rfl, hv, hbl⟩
              have HT := Lib.hid (HT.out.later hbl)
              have HV := Lib.hid hv.a
              obtain ⟨va2, vc2, rfl⟩ := hv.form
              clear hv hbl HZ RLd
              have RDd := Lib.hid (delta_Read (.slice va2 dd.lines.length vc2) dd.lines wl (HG.out.below HT.out.low) HV.out LS.out.1 LS.out.2)
              go_wp2_with fail
              refine RDd.out.mono ?_
              clear RDd
              rintro e wr ⟨y0, y1, y2, y3, y4, y5, rfl, hy, hbr⟩
              rw [RBK.out] at hy ⊢
              dsimp only at hy ⊢
              have HT := Lib.hid (HT.out.later hbr)
              have HY := Lib.hid hy
              obtain ⟨ya0, yc0, rfl⟩ := hy.a0.form
              obtain ⟨ya1, yc1, rfl⟩ := hy.a1.form
              obtain ⟨ya2, yc2, rfl⟩ := hy.a2.form
              obtain ⟨ya3, yc3, rfl⟩ := hy.a3.form
              obtain ⟨ya4, yc4, rfl⟩ := hy.a4.form
              obtain ⟨ya5, yc5, rfl⟩ := hy.a5.form
              clear hy hbr HV RBK LS
              have HD := Lib.hid (Blk.new wr #[.slice ya0 dd.more.length yc0, .slice ya1 dd.gone.length yc1, .slice ya2 dd.grow.length yc2, .slice ya3 dd.ungrow.length yc3, .slice ya4 dd.shrink.length yc4, .slice ya5 dd.unshrink.length yc5] 32)
              have hba := (Below.refl wr.heap.size wr).alloc (Nat.le_refl _) (.cells #[.slice ya0 dd.more.length yc0, .slice ya1 dd.gone.length yc1, .slice ya2 dd.grow.length yc2, .slice ya3 dd.ungrow.length yc3, .slice ya4 dd.shrink.length yc4, .slice ya5 dd.unshrink.length yc5] 32)
              have HT := Lib.hid (HT.out.later hba)
              have HY := Lib.hid (HY.out.below hba)
              clear hba
              obtain ⟨gd, hgd⟩ : ∃ g, g = wr.heap.size := ⟨_, rfl⟩
              obtain ⟨ws, hws⟩ : ∃ V, V = wr.alloc (.cells #[.slice ya0 dd.more.length yc0, .slice ya1 dd.gone.length yc1, .slice ya2 dd.grow.length yc2, .slice ya3 dd.ungrow.length yc3, .slice ya4 dd.shrink.length yc4, .slice ya5 dd.unshrink.length yc5] 32) := ⟨_, rfl⟩
              rw [← hws] at HD HT HY
              rw [← hgd] at HD
              go_upto_region 16 with fail
              rw [← hws, ← hgd]
              clear hws hgd
              have HT := Lib.hid HT.out.drew
              have HD := Lib.hid (HD.out.below (below_drew (Below.refl ws.heap.size ws)))
              have HY := Lib.hid (HY.out.below (below_drew (Below.refl ws.heap.size ws)))
              refine wp_region_held_drew (S := (fun W => (∀ o, W.cell? ⟨w.heap.size, o, none⟩ = (#[.slice a0 l1.length c0, .slice a1 g1.length c1, .slice a2 h1.length c2, .slice a3 q1.length c3] : Array Value)[o]?) ∧ (∀ o, W.cell? ⟨w.heap.size + 1, o, none⟩ = (#[.slice b0 l2.length d0, .slice b1 g2.length d1, .slice b2 h2.length d2, .slice b3 q2.length d3] : Array Value)[o]?) ∧ (∀ o, W.cell? ⟨gd, o, none⟩ = (#[.slice ya0 dd.more.length yc0, .slice ya1 dd.gone.length yc1, .slice ya2 dd.grow.length yc2, .slice ya3 dd.ungrow.length yc3, .slice ya4 dd.shrink.length yc4, .slice ya5 dd.unshrink.length yc5] : Array Value)[o]?))) (by kernel_rfl) ⟨HT.out.a.1, HT.out.b.1, HD.out.1⟩ (fun hHeld => ?_)
              obtain ⟨wk, hwk⟩ : ∃ V, V = ws.drew := ⟨_, rfl⟩
              rw [← hwk] at HT HD HY hHeld ⊢
              clear hwk
              (refine hyes 0 ?_); (refine hyes 1 ?_); (refine hyes 2 ?_); (refine hyes 3 ?_); (refine hyes 4 ?_); (refine hyes 5 ?_); (try simp only [Act.put, List.setIfInBounds_toArray, List.set])
              (refine held_call 6 rfl (by kernel_rfl) (fun K hK => ?_); go_simp)
              go_at_call 21; refine (OF.out _ HT.out.low).mono ?_; rintro e wq1 ⟨z, rfl, ⟨z0, z1, z2, z3, z4, z5, rfl, hz⟩, hbq⟩; have HT := Lib.hid (HT.out.later hbq); have HD := Lib.hid (HD.out.below hbq); have HY := Lib.hid (HY.out.below hbq); have HZ := Lib.hid hz; obtain ⟨za0, zc0, rfl⟩ := hz.a0.form; obtain ⟨za1, zc1, rfl⟩ := hz.a1.form; obtain ⟨za2, zc2, rfl⟩ := hz.a2.form; obtain ⟨za3, zc3, rfl⟩ := hz.a3.form; obtain ⟨za4, zc4, rfl⟩ := hz.a4.form; obtain ⟨za5, zc5, rfl⟩ := hz.a5.form; clear hz; clear hbq
              (refine hK.out _ _ (⟨HT.out.a.1, HT.out.b.1, HD.out.1⟩) (fun hHeld => ?_); clear hK K; (try simp only [Act.put, List.setIfInBounds_toArray, List.set]))
              have SMD := Lib.hid (ref32_Same (.slice ya0 dd.more.length yc0) (.slice ya1 dd.gone.length yc1) (.slice ya2 dd.grow.length yc2) (.slice ya3 dd.ungrow.length yc3) (.slice ya4 dd.shrink.length yc4) (.slice ya5 dd.unshrink.length yc5) (.slice za0 dd.more.length zc0) (.slice za1 dd.gone.length zc1) (.slice za2 dd.grow.length zc2) (.slice za3 dd.ungrow.length zc3) (.slice za4 dd.shrink.length zc4) (.slice za5 dd.unshrink.length zc5) dd dd wq1 HY.out HZ.out)
              rw [dd.eqv_self] at SMD
              (refine held_call 7 rfl (by kernel_rfl) (fun K hK => ?_); go_simp)
              go_at_call 22; refine (SMD.out).mono ?_; rintro e wq2 ⟨rfl, hbq⟩; have HT := Lib.hid (HT.out.later hbq); have HD := Lib.hid (HD.out.below hbq); clear hbq
              (refine hK.out _ _ (⟨HT.out.a.1, HT.out.b.1, HD.out.1⟩) (fun hHeld => ?_); clear hK K; (try simp only [Act.put, List.setIfInBounds_toArray, List.set]))
              clear SMD HZ HY
              (refine hyes 8 ?_); (refine hyes 9 ?_); (try simp only [Act.put, List.setIfInBounds_toArray, List.set])
              (refine held_call 10 rfl (by kernel_rfl) (fun K hK => ?_); go_simp)
              go_at_call 11; refine (HL.out _).mono ?_; rintro e wq3 ⟨rfl, hbq⟩; have HT := Lib.hid (HT.out.later hbq); have HD := Lib.hid (HD.out.below hbq); clear hbq
              (refine hK.out _ _ (⟨HT.out.a.1, HT.out.b.1, HD.out.1⟩) (fun hHeld => ?_); clear hK K; (try simp only [Act.put, List.setIfInBounds_toArray, List.set]))
              (refine hyes 11 ?_); (refine hyes 12 ?_); (try simp only [Act.put, List.setIfInBounds_toArray, List.set])
              refine wpAnyH_done (by kernel_rfl) ?_ _
              go_wp2
              go_ret
              exact ⟨rfl, HT.out.low⟩
end Go.Proofs.YtomhekohcadijaaGreatDoor
namespace Go.Proofs.YtomhekohcadijaaGreatDoor
open Go.ChangeShapes Go.WideShapes Go.ChangeAt Go.RowKit

section
variable {H : Type} {enc : TypeId × Value → H} {w : World} {base fuel n : Nat} {sp : Nat → Bool} {held : Bool} {cs : List Value} {x : DataW H × List MemPlace} {v : Value} {d : DataW H} {ps : List MemPlace}
def dStr (H : Type) (s : ByteArray) : DataW H := .lit (.string s.data.toList)
def dRl (H : Type) (r : Rl) : DataW H := .agg [dStr H r.o, dStr H r.n]
def dSt (H : Type) (s : St) : DataW H := .agg [.lit (.int .i64 s.k), dRl H s.h, dStr H s.who, dRl H s.a, dRl H s.b, dStr H s.via]
def St.fits (s : St) : Prop := s.le maxLen ∧ (Lit.int IntKind.i64 s.k).wf = true

theorem two_of (h : cs.length = 2) : ∃ a b, cs = [a, b] := by
  match cs, h with
  | [a, b], _ => exact ⟨a, b, rfl⟩
theorem trod_role (h : DataW.trod enc Tryz.prog w base sp held fuel 78 cs = some x) : ∃ r : Rl, cs = r.cells ∧ x = (dRl H r, []) ∧ r.le maxLen := by
  obtain ⟨xs, n, _, rfl, hl, hlen, hf⟩ := DataW.trod_struct Tryz.underlying78 h
  have hc : Tryz.prog.cellsOf 78 = 2 := by kernel_rfl
  have hs : Tryz.prog.cellsOf 9 = 1 := by kernel_rfl
  rw [hc] at hl
  obtain ⟨a, b, rfl⟩ := two_of hl
  have f0 : DataW.trod enc Tryz.prog w base sp held n 9 [a] = xs[0]? := by simpa [hs] using hf 0 _ rfl
  have f1 : DataW.trod enc Tryz.prog w base sp held n 9 [b] = xs[1]? := by simpa [hs] using hf 1 _ rfl
  match xs, hlen with
  | [y0, y1], _ =>
    simp only [List.getElem?_cons_zero, List.getElem?_cons_succ] at f0 f1
    obtain ⟨s0, e0, g0, l0⟩ := DataW.trod_string Tryz.underlying9 f0
    obtain ⟨s1, e1, g1, l1⟩ := DataW.trod_string Tryz.underlying9 f1
    simp only [List.cons.injEq, and_true] at e0 e1
    subst e0 e1 g0 g1
    exact ⟨⟨s0, s1⟩, rfl, rfl, l0, l1⟩
theorem nine_of (h : cs.length = 9) : ∃ a b c d e f g i j, cs = [a, b, c, d, e, f, g, i, j] := by
  match cs, h with
  | [a, b, c, d, e, f, g, i, j], _ => exact ⟨a, b, c, d, e, f, g, i, j, rfl⟩
theorem trod_stmt (h : DataW.trod enc Tryz.prog w base sp held fuel 80 cs = some x) : ∃ s : St, cs = s.cells ∧ x = (dSt H s, []) ∧ s.fits := by
  obtain ⟨xs, n, _, rfl, hl, hlen, hf⟩ := DataW.trod_struct Tryz.underlying80 h
  have hc : Tryz.prog.cellsOf 80 = 9 := by kernel_rfl
  have hr : Tryz.prog.cellsOf 78 = 2 := by kernel_rfl
  have hi : Tryz.prog.cellsOf 3 = 1 := by kernel_rfl
  have hs : Tryz.prog.cellsOf 9 = 1 := by kernel_rfl
  rw [hc] at hl
  obtain ⟨c0, c1, c2, c3, c4, c5, c6, c7, c8, rfl⟩ := nine_of hl
  have f0 : DataW.trod enc Tryz.prog w base sp held n 3 [c0] = xs[0]? := by simpa [hi] using hf 0 _ rfl
  have f1 : DataW.trod enc Tryz.prog w base sp held n 78 [c1, c2] = xs[1]? := by simpa [hr] using hf 1 _ rfl
  have f2 : DataW.trod enc Tryz.prog w base sp held n 9 [c3] = xs[2]? := by simpa [hs] using hf 2 _ rfl
  have f3 : DataW.trod enc Tryz.prog w base sp held n 78 [c4, c5] = xs[3]? := by simpa [hr] using hf 3 _ rfl
  have f4 : DataW.trod enc Tryz.prog w base sp held n 78 [c6, c7] = xs[4]? := by simpa [hr] using hf 4 _ rfl
  have f5 : DataW.trod enc Tryz.prog w base sp held n 9 [c8] = xs[5]? := by simpa [hs] using hf 5 _ rfl
  match xs, hlen with
  | [y0, y1, y2, y3, y4, y5], _ =>
    simp only [List.getElem?_cons_zero, List.getElem?_cons_succ] at f0 f1 f2 f3 f4 f5
    obtain ⟨k, e0, g0, l0⟩ := DataW.trod_int Tryz.underlying3 f0
    obtain ⟨r1, e1, g1, l1⟩ := trod_role f1
    obtain ⟨s2, e2, g2, l2⟩ := DataW.trod_string Tryz.underlying9 f2
    obtain ⟨r3, e3, g3, l3⟩ := trod_role f3
    obtain ⟨r4, e4, g4, l4⟩ := trod_role f4
    obtain ⟨s5, e5, g5, l5⟩ := DataW.trod_string Tryz.underlying9 f5
    simp only [Rl.cells, List.cons.injEq, and_true] at e0 e1 e2 e3 e4 e5
    obtain ⟨rfl, rfl⟩ := e1
    obtain ⟨rfl, rfl⟩ := e3
    obtain ⟨rfl, rfl⟩ := e4
    subst e0 e2 e5 g0 g1 g2 g3 g4 g5
    exact ⟨⟨k, r1, s2, r3, r4, s5⟩, rfl, rfl, ⟨l1, l2, l3, l4, l5⟩, l0⟩
end
end Go.Proofs.YtomhekohcadijaaGreatDoor
namespace Go.Proofs.YtomhekohcadijaaGreatDoor
open Go.ChangeShapes Go.WideShapes Go.ChangeAt Go.RowKit Go.Deep

theorem laid_out : laidOutB Tryz.prog = true := by kernel_rfl
end Go.Proofs.YtomhekohcadijaaGreatDoor
