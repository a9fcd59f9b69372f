/- Light of queries and policies, with the lengths of the queries' roles and principals (turned from LightS by gen_lightu.py). A policy that lies in a world, as what it is. policy.Print and policy.Right of a policy that may be. crupperref04.Universal (out of Ref13D). crupperref04: name, Words, front, goes. crupperref04.Print: the same line. crupperref04.Words and query.Words at any kind; query.Roles. crupperref05.Print: the lines of a policy that may be; nothing of another one (printed by gen_polprint.py). Whether two rows of texts, two queries, two policies are the same: of the same ones. slices.Equal at rows of texts. crupperref01.Same at any two rows; crupperref04.Same, query.Same at any two queries (printed by gen_qsame.py). Whether two rows of queries, two policies are the same: to the letter. -/
import Derived.Test.YtnhkgfgbhedphaaGreatDoorPart16
import Derived.Test.YtnhkgfgbhedphaaGreatDoorPart12
import Derived.Test.YtnhkgfgbhedphaaGreatDoorPart9
import Derived.Test.YtnhkgfgbhedphaaGreatDoorPart13
import Derived.Test.YtnhkgfgbhedphaaGreatDoorPart6
import Derived.Test.YtnhkgfgbhedphaaGreatDoorPart3
import Derived.Test.YtnhkgfgbhedphaaGreatDoorPart8
import Derived.Test.YtnhkgfgbhedphaaGreatDoorPart7
import Derived.Test.YtnhkgfgbhedphaaGreatDoorPart10
import Derived.Test.YtnhkgfgbhedphaaGreatDoorPart14
namespace Go.Proofs.YtnhkgfgbhedphaaGreatDoor
open Go.RowKit Go.Shelf

def Qv.okU (q : Qv) (w : World) : Prop := q.okS w ∧ ∃ ss : List ByteArray, SlA w 1 q.w ss.length (strs ss) ∧ ∀ s ∈ ss, s.size ≤ 40
def LightQU (q : Qv) (w : World) (e : Ending) : Prop := ∃ b, e = .returned (.bool b) ∧ (b = true → q.okU w)
theorem okU_back {q : Qv} {w W : World} (h : q.ok w) (hb : Below w.heap.size w W) (h' : q.okU W) : q.okU w := by
  refine ⟨okS_back h hb h'.1, ?_⟩
  obtain ⟨_, _, ss, hs, _⟩ := h
  obtain ⟨_, ts, ht, hle⟩ := h'
  have e : ts = ss := SlA.same ht (hs.below hb)
  subst e
  exact ⟨ts, hs, hle⟩
def LightX (w : World) (l : List St) (g h : List Rl) (qs : List Qv) (e : Ending) : Prop := ∃ b, e = .returned (.bool b) ∧ (b = true → (l.length ≤ 30 ∧ g.length ≤ 30 ∧ h.length ≤ 30 ∧ qs.length ≤ 30 ∧ allLe l 40 ∧ ∀ q ∈ qs, q.okU w) ∧ ∀ x ∈ g ++ h, x.le 40)
set_option maxRecDepth 100000 in
set_option maxHeartbeats 1000000 in
theorem law4_LightU (q : Qv) (w : World) (hq : q.ok w) : Calls Tryz.prog 43 #[qv q] w fun e w' => LightQU q w e ∧ Below w.heap.size w w' := by
  obtain ⟨ha, hb, ss, hs, hl⟩ := hq
  obtain ⟨k, ⟨x1, x2⟩, ⟨x3, x4⟩, wv⟩ := q
  have HS := Lib.hid (fun W h => law1_LightT wv ss W h hl)
  have HQ := Lib.hid (fun (h : ss.length ≤ 40 ∧ ∀ s ∈ ss, s.size ≤ 40) (h4 : [x1, x2, x3, x4].length ≤ 40 ∧ ∀ x ∈ [x1, x2, x3, x4], x.size ≤ 40) => show (⟨k, ⟨x1, x2⟩, ⟨x3, x4⟩, wv⟩ : Qv).okU w from ⟨⟨⟨ha, hb, ss, hs, h.1, hl⟩, ⟨h4.2 _ (by simp), h4.2 _ (by simp)⟩, ⟨h4.2 _ (by simp), h4.2 _ (by simp)⟩⟩, ss, hs, h.2⟩)
  have HW := Lib.hid hs
  have H4 := Lib.hid (fun W h => law1_LightT (.slice (some ⟨w.heap.size + 1, 0, none⟩) 4 4) [x1, x2, x3, x4] W h (by
    intro s hs; simp at hs; rcases hs with rfl | rfl | rfl | rfl
    · exact ha.1
    · exact ha.2
    · exact hb.1
    · exact hb.2))
  obtain ⟨wo, wc, rfl⟩ := hs.form
  clear ha hb hl hs
  have HB := Lib.hid ((Below.refl _ w).alloc (Nat.le_refl _) (.cells #[.int .i64 k, .string x1, .string x2, .string x3, .string x4, .slice wo ss.length wc] 66))
  have HB2 := Lib.hid (HB.out.alloc HB.out.size (.cells #[.string x1, .string x2, .string x3, .string x4] 9))
  have S4 := Lib.hid (Sl.new (w.alloc (.cells #[.int .i64 k, .string x1, .string x2, .string x3, .string x4, .slice wo ss.length wc] 66)) [.string x1, .string x2, .string x3, .string x4] 9 1 4 (w.heap.size + 1) (by simp) rfl (by simp [maxLen]))
  go_enter Tryz.func43, Tryz.ntmps43
  go_wp2_with fail
  refine (HS.out _ (HW.out.below HB.out)).mono ?_
  rintro e w1 ⟨⟨b1, rfl, hb1⟩, rfl⟩
  have HB1 := Lib.hid hb1
  clear hb1
  cases b1 with
  | false =>
    go_wp2
    go_ret
    exact ⟨⟨false, rfl, fun h => by cases h⟩, HB.out⟩
  | true =>
    go_wp2_with fail
    refine (H4.out _ S4.out.a).mono ?_
    rintro e w1 ⟨⟨b2, rfl, hb2⟩, rfl⟩
    have HB4 := Lib.hid hb2
    clear hb2
    go_wp2
    go_ret
    exact ⟨⟨b2, rfl, fun h => HQ.out (HB1.out (by first | rfl | trivial)) (HB4.out h)⟩, HB2.out⟩
set_option maxRecDepth 100000 in
set_option maxHeartbeats 8000000 in
theorem law5_LightU (v0 v1 v2 v3 : Value) (l : List St) (g h : List Rl) (qs : List Qv) (w : World) (hp : PolAt w v0 v1 v2 v3 l g h qs) :
    Calls Tryz.prog 9 #[pv v0 v1 v2 v3] w fun e w' => LightX w l g h qs e ∧ Below w.heap.size w w' := by
  have HP := Lib.hid hp
  have hm0 := hp.rs.max
  have hm1 := hp.rg.max
  have hm2 := hp.rh.max
  have hm3 := hp.rq.max
  obtain ⟨a0, c0, rfl⟩ := hp.rs.form
  obtain ⟨a1, c1, rfl⟩ := hp.rg.form
  obtain ⟨a2, c2, rfl⟩ := hp.rh.form
  obtain ⟨a3, c3, rfl⟩ := hp.rq.form
  have HL := Lib.hid (fun k (hk : k < l.length) W => law3_Light l[k] W (hp.ls _ (List.getElem_mem hk)))
  have T0 := Lib.hid (show OneAt w #[.slice a0 l.length c0, .slice a1 g.length c1, .slice a2 h.length c2, .slice a3 qs.length c3] (w.alloc (.cells #[.slice a0 l.length c0, .slice a1 g.length c1, .slice a2 h.length c2, .slice a3 qs.length c3] 26)) from ⟨Blk.new w _ _, (Below.refl _ _).alloc (Nat.le_refl _) _⟩)
  clear hp
  go_enter Tryz.func9, Tryz.ntmps9
  by_cases t0 : 30 < l.length
  · have d0 : decide ((30 : Int) < (l.length : Int)) = true := by (rw [decide_eq_true_iff]; omega)
    go_wp2
    go_ret
    exact ⟨⟨false, rfl, (fun h => by cases h)⟩, T0.out.low⟩
  have d0 : decide ((30 : Int) < (l.length : Int)) = false := by (rw [decide_eq_false_iff_not]; omega)
  by_cases t1 : 30 < g.length
  · have d1 : decide ((30 : Int) < (g.length : Int)) = true := by (rw [decide_eq_true_iff]; omega)
    go_wp2
    go_ret
    exact ⟨⟨false, rfl, (fun h => by cases h)⟩, T0.out.low⟩
  have d1 : decide ((30 : Int) < (g.length : Int)) = false := by (rw [decide_eq_false_iff_not]; omega)
  by_cases t2 : 30 < h.length
  · have d2 : decide ((30 : Int) < (h.length : Int)) = true := by (rw [decide_eq_true_iff]; omega)
    go_wp2
    go_ret
    exact ⟨⟨false, rfl, (fun h => by cases h)⟩, T0.out.low⟩
  have d2 : decide ((30 : Int) < (h.length : Int)) = false := by (rw [decide_eq_false_iff_not]; omega)
  by_cases t3 : 30 < qs.length
  · have d3 : decide ((30 : Int) < (qs.length : Int)) = true := by (rw [decide_eq_true_iff]; omega)
    go_wp2
    go_ret
    exact ⟨⟨false, rfl, (fun h => by cases h)⟩, T0.out.low⟩
  have d3 : decide ((30 : Int) < (qs.length : Int)) = false := by (rw [decide_eq_false_iff_not]; omega)
  go_wp2_with fail
  clear d0 d1 d2 d3
  go_loopw [34] (fun i wr => ∃ k : Nat, k ≤ l.length ∧ i = .int .i64 k ∧ Hid (OneAt w #[.slice a0 l.length c0, .slice a1 g.length c1, .slice a2 h.length c2, .slice a3 qs.length c3] wr) ∧ Hid (∀ j (hj : j < l.length), j < k → l[j].le 40)) (fun i _ => l.length - (intOf i).toNat)
  case atStart => exact ⟨0, by omega, rfl, T0, Lib.hid (fun _ _ h => absurd h (by omega))⟩
  case round =>
    obtain ⟨k, hk, rfl, TR, HJ⟩ := hrel
    by_cases hlt : k < l.length
    · obtain ⟨b1, o1, e1, he1, hc1, hm1', hb1, hx1⟩ := HP.out.rs.pos (by omega)
      simp only [Value.slice.injEq, true_and] at he1
      obtain ⟨rfl, rfl⟩ := he1
      obtain ⟨p0, p1, p2, p3, p4, p5, p6, p7, p8⟩ := st_cell (w := wr) (fun j u hu => (TR.out.low.cell (p := ⟨b1, o1 + j, none⟩) hb1).trans (hx1 j u hu)) k hlt
      have hbr : b1 < wr.heap.size := Nat.lt_of_lt_of_le hb1 TR.out.low.size
      have HLk := Lib.hid (fun W => HL.out k hlt W)
      clear hx1
      go_wp2_with fail
      refine (HLk.out _).mono ?_
      rintro e w2 ⟨b, rfl, hle, hb2⟩
      have HLE := Lib.hid hle
      have T2 := Lib.hid ((TR.out.alloc _).later hb2)
      clear hle hb2
      cases b with
      | false =>
        go_wp2
        go_ret
        exact ⟨⟨false, rfl, (fun h => by cases h)⟩, T2.out.low⟩
      | true =>
        have HJ2 : Hid (∀ j (hj : j < l.length), j < k + 1 → l[j].le 40) := Lib.hid (fun j hj hjk => by
          by_cases h : j < k
          · exact HJ.out j hj h
          · obtain rfl : j = k := by omega
            exact HLE.out (by first | rfl | trivial))
        go_wp2
        exact ⟨⟨k + 1, by omega, by go_num, T2, HJ2⟩, by simp [intOf]; omega⟩
    · have HJ3 := Lib.hid (show allLe l 40 from fun x hx => by
        obtain ⟨j, hj, rfl⟩ := List.getElem_of_mem hx
        exact HJ.out j hj (by omega))
      obtain ⟨ca, fa, za⟩ := TR.out.a
      clear HJ HL
      go_wp2_with fail
      go_loopw [45] (fun i wr => ∃ k : Nat, k ≤ qs.length ∧ i = .int .i64 k ∧ Hid (OneAt w #[.slice a0 l.length c0, .slice a1 g.length c1, .slice a2 h.length c2, .slice a3 qs.length c3] wr) ∧ Hid (∀ j (hj : j < qs.length), j < k → qs[j].okU w)) (fun i _ => qs.length - (intOf i).toNat)
      case atStart => exact ⟨0, by omega, rfl, TR, Lib.hid (fun _ _ h => absurd h (by omega))⟩
      case round =>
        clear TR ca fa za
        obtain ⟨k, hk, rfl, TR, HQJ⟩ := hrel
        by_cases hlt : k < qs.length
        · obtain ⟨b1, o1, e1, he1, hc1, hm1', hb1, hx1⟩ := HP.out.rq.pos (by omega)
          simp only [Value.slice.injEq, true_and] at he1
          obtain ⟨rfl, rfl⟩ := he1
          obtain ⟨p0, p1, p2, p3, p4, p5⟩ := q_cell (w := wr) (fun j u hu => (TR.out.low.cell (p := ⟨b1, o1 + j, none⟩) hb1).trans (hx1 j u hu)) k hlt
          have hbr : b1 < wr.heap.size := Nat.lt_of_lt_of_le hb1 TR.out.low.size
          have hqo := HP.out.lq _ (List.getElem_mem hlt)
          have QL := Lib.hid (fun W (hb : Below w.heap.size w W) => law4_LightU qs[k] W (hqo.below hb))
          have QB := Lib.hid (fun (W : World) (hb : Below w.heap.size w W) (h : qs[k].okU W) => okU_back hqo hb h)
          have HQ2 : Hid (qs[k].okU w → ∀ j (hj : j < qs.length), j < k + 1 → qs[j].okU w) := Lib.hid (fun hpk j hj hjk => by
            by_cases h : j < k
            · exact HQJ.out j hj h
            · obtain rfl : j = k := by omega
              exact hpk)
          obtain ⟨wo, wc, hw5⟩ : ∃ a c, qs[k].w = .slice a ((hqo.2.2).choose).length c := ((hqo.2.2).choose_spec.1).form
          generalize (hqo.2.2).choose.length = nw at hw5
          have hek : qs[k] = ⟨qs[k].k, ⟨qs[k].a.o, qs[k].a.n⟩, ⟨qs[k].b.o, qs[k].b.n⟩, qs[k].w⟩ := rfl
          clear hx1 hqo
          generalize qs[k] = x at *
          obtain ⟨xk, ⟨x1, x2⟩, ⟨x3, x4⟩, xw⟩ := x
          dsimp only at hw5
          subst hw5
          clear hek
          have T2 := Lib.hid (TR.out.alloc (.cells #[.int .i64 xk, .string x1, .string x2, .string x3, .string x4, .slice wo nw wc] 66))
          go_wp2_with fail
          refine (QL.out _ T2.out.low).mono ?_
          rintro e w2 ⟨⟨b, rfl, hbq⟩, hb2⟩
          have T3 := Lib.hid (T2.out.later hb2)
          have HBQ := Lib.hid (fun h => HQ2.out (QB.out _ T2.out.low (hbq h)))
          clear hb2 hbq
          cases b with
          | false =>
            go_wp2
            go_ret
            exact ⟨⟨false, rfl, (fun h => by cases h)⟩, T3.out.low⟩
          | true =>
            go_wp2
            exact ⟨⟨k + 1, by omega, by go_num, T3, Lib.hid (HBQ.out (by first | rfl | trivial))⟩, by simp [intOf]; omega⟩
        · have HQA := Lib.hid (show ∀ q ∈ qs, q.okU w from fun q hq => by
            obtain ⟨j, hj, rfl⟩ := List.getElem_of_mem hq
            exact HQJ.out j hj (by omega))
          obtain ⟨inf, hi, hz0, hz1, hz2⟩ := info_parts rl_info'
          have HINF := Lib.hid hi
          have T2 := TR.out.drew
          have hown : (wr.drew.alloc (.cells #[] 54)).ownsRow wr.heap.size 54 2 (.slice (some ⟨wr.heap.size, 0, none⟩) 0 0) 0 [] := World.ownsRow_made wr.drew #[] 0 (Nat.le_refl _) (Nat.zero_le _) (by simp)
          have hlow : Below wr.heap.size wr (wr.drew.alloc (.cells #[] 54)) := (below_drew (Below.refl _ _)).alloc (Nat.le_refl _) _
          have T4 := TR.out.later hlow
          obtain ⟨ca, fa, za⟩ := TR.out.a
          have hza : w.heap.size < wr.heap.size := za
          clear hi fa za
          go_wp2_with fail
          go_region_held3 (fun W => ∀ o, W.cell? ⟨w.heap.size, o, none⟩ = (#[.slice a0 l.length c0, .slice a1 g.length c1, .slice a2 h.length c2, .slice a3 qs.length c3] : Array Value)[o]?)
            (first | exact T2.a.1 | exact T4.a.1 | exact T5.a.1 | exact T6.a.1 | go_keep)
            (first
              | (refine step_row rfl _ _ 23 rfl wr.heap.size 54 inf _ 2 32 Tryz.underlying23 HINF.out hz0 hz1 hz2 (Nat.le_of_ble_eq_true rfl) rfl (Nat.le_of_ble_eq_true rfl) _ 0 [] rfl hown _ g.length _ rfl (HP.out.rg.below T4.low) (rls_one _) ?_ hlow.size ?_; omega; intro a5 c5 w5 hown5 hg5; have hb5 := below_own hlow hown hg5 hlow.size (Nat.le_refl _); have T5 := TR.out.later hb5)
              | (refine step_row rfl _ _ 23 rfl wr.heap.size 54 inf _ 2 32 Tryz.underlying23 HINF.out hz0 hz1 hz2 (Nat.le_of_ble_eq_true rfl) rfl (Nat.le_of_ble_eq_true rfl) _ (0 + g.length) _ rfl hown5 _ h.length _ rfl (HP.out.rh.below T5.low) (rls_one _) ?_ hb5.size ?_; omega; intro a6 c6 w6 hown6 hg6; have hb6 := below_own hb5 hown5 hg6 hb5.size (Nat.le_refl _); have T6 := TR.out.later hb6; obtain ⟨n6, hn6⟩ : ∃ n6, n6 = 0 + g.length + h.length := ⟨_, rfl⟩; rw [← hn6] at hown6 ⊢; have HN6 := Lib.hid hn6; clear hn6))
          have HS6 := Lib.hid (show Sl w6 2 (.slice a6 n6 c6) n6 ((g ++ h).flatMap Rl.cells) by have := Sl.of_own hown6; rw [rl_flat]; simpa using this)
          have HLe := Lib.hid (show ∀ x ∈ g ++ h, x.le 9223372036854775807 from fun x hx => by
            rcases List.mem_append.1 hx with hx | hx
            · exact HP.out.lg x hx
            · exact HP.out.lh x hx)
          have HN := Lib.hid (show n6 = (g ++ h).length by rw [HN6.out, List.length_append]; omega)
          have HB6 := Lib.hid T6.low
          have hn6m : n6 ≤ 1000 := by have := HN6.out; omega
          have HGH : ∃ gh, Hid (g ++ h = gh) := ⟨_, Lib.hid rfl⟩
          obtain ⟨gh, HGH⟩ := HGH
          rw [HGH.out] at HS6 HLe HN
          clear hown5 hown6 hg5 hg6 hb5 hb6 T2 T4 T5 T6 hlow hown ca hza TR HN6
          go_wp2_with fail
          go_loopw [61] (fun i wr => ∃ k : Nat, k ≤ n6 ∧ i = .int .i64 k ∧ Hid (Below w6.heap.size w6 wr) ∧ Hid (∀ j (hj : j < gh.length), j < k → gh[j].le 40)) (fun i _ => n6 - (intOf i).toNat)
          case atStart => exact ⟨0, by omega, rfl, Lib.hid (Below.refl _ _), Lib.hid (fun _ _ h => absurd h (by omega))⟩
          case round =>
            obtain ⟨k, hk, rfl, HB, HRJ⟩ := hrel
            by_cases hlt : k < n6
            · obtain ⟨b1, o1, e1, he1, hc1, hm1', hb1, hx1⟩ := HS6.out.pos (by omega)
              simp only [Value.slice.injEq, true_and] at he1
              obtain ⟨rfl, rfl⟩ := he1
              have hlt2 : k < gh.length := by have := HN.out; omega
              obtain ⟨p0, p1⟩ := rl_cell (w := wr) (fun j u hu => (HB.out.cell (p := ⟨b1, o1 + j, none⟩) hb1).trans (hx1 j u hu)) k hlt2
              have hbr : b1 < wr.heap.size := Nat.lt_of_lt_of_le hb1 HB.out.size
              have hle := HLe.out _ (List.getElem_mem hlt2)
              have HR2 : Hid (gh[k].le 40 → ∀ j (hj : j < gh.length), j < k + 1 → gh[j].le 40) := Lib.hid (fun hpk j hj hjk => by
                by_cases h : j < k
                · exact HRJ.out j hj h
                · obtain rfl : j = k := by omega
                  exact hpk)
              clear hx1
              generalize gh[k] = x at *
              obtain ⟨x1, x2⟩ := x
              have hz1' : x1.size ≤ 9223372036854775807 := hle.1
              have hz2' : x2.size ≤ 9223372036854775807 := hle.2
              have HB2 := Lib.hid (HB.out.alloc HB.out.size (.cells #[.string x1, .string x2] 54))
              clear hle
              by_cases q1 : 40 < x1.size
              · have d1 : decide ((40 : Int) < (x1.size : Int)) = true := by (rw [decide_eq_true_iff]; omega)
                clear q1
                go_wp2
                go_ret
                exact ⟨⟨false, rfl, (fun h => by cases h)⟩, HB6.out.trans (HB2.out.mono HB6.out.size)⟩
              have d1 : decide ((40 : Int) < (x1.size : Int)) = false := by (rw [decide_eq_false_iff_not]; omega)
              have Q1 := Lib.hid q1
              clear q1
              by_cases q2 : 40 < x2.size
              · have d2 : decide ((40 : Int) < (x2.size : Int)) = true := by (rw [decide_eq_true_iff]; omega)
                clear q2
                go_wp2
                go_ret
                exact ⟨⟨false, rfl, (fun h => by cases h)⟩, HB6.out.trans (HB2.out.mono HB6.out.size)⟩
              have d2 : decide ((40 : Int) < (x2.size : Int)) = false := by (rw [decide_eq_false_iff_not]; omega)
              have HR3 := Lib.hid (HR2.out ⟨by have := Q1.out; show x1.size ≤ 40; omega, by show x2.size ≤ 40; omega⟩)
              clear q2
              go_wp2
              exact ⟨⟨k + 1, by omega, by go_num, HB2, HR3⟩, by simp [intOf]; omega⟩
            · have HR4 : Hid (∀ x ∈ g ++ h, x.le 40) := Lib.hid (by
                rw [HGH.out]
                intro x hx
                obtain ⟨j, hj, rfl⟩ := List.getElem_of_mem hx
                exact HRJ.out j hj (by have := HN.out; omega))
              go_wp2
              go_ret
              exact ⟨⟨true, rfl, (fun _ => ⟨⟨by omega, by omega, by omega, by omega, HJ3.out, HQA.out⟩, HR4.out⟩)⟩, HB6.out.trans (HB.out.mono HB6.out.size)⟩
end Go.Proofs.YtnhkgfgbhedphaaGreatDoor
namespace Go.Proofs.YtnhkgfgbhedphaaGreatDoor
open Go.RowKit Go.Shelf

theorem PolAt.give {w : World} {v0 v1 v2 v3 : Value} {l : List St} {g h : List Rl} {qs : List Qv} (H : PolAt w v0 v1 v2 v3 l g h qs) :
    ∃ zs : List (Qd × Value), PolD w v0 v1 v2 v3 ⟨l, g, h, zs.map (·.1)⟩ zs ∧ zs.map qz = qs := by
  have hz : (qs.map (fun q : Qv => ((⟨q.k, q.a, q.b, whoAt w q.w⟩ : Qd), q.w))).map qz = qs := by
    rw [List.map_map]
    conv => rhs; rw [← List.map_id qs]
    rfl
  refine ⟨qs.map (fun q : Qv => ((⟨q.k, q.a, q.b, whoAt w q.w⟩ : Qd), q.w)), ⟨rfl, H.rs, H.rg, H.rh, ?_, ?_⟩, hz⟩
  · rw [hz, List.length_map]
    exact H.rq
  · intro z hz
    obtain ⟨q, hq, rfl⟩ := List.mem_map.1 hz
    obtain ⟨_, _, ss, hs, _⟩ := H.lq q hq
    dsimp only
    rw [whoAt_eq hs]
    exact hs
theorem leP_light {w : World} {v0 v1 v2 v3 : Value} {l : List St} {g h : List Rl} {zs : List (Qd × Value)} (H : PolD w v0 v1 v2 v3 ⟨l, g, h, zs.map (·.1)⟩ zs) (hl : allLe l 40) (hq : ∀ q ∈ zs.map qz, q.okU w) (hgh : ∀ x ∈ g ++ h, x.le 40) :
    LeP ⟨l, g, h, zs.map (·.1)⟩ 40 40 := by
  have a : ∀ z ∈ zs, (qz z).okU w := fun z hz => hq _ (List.mem_map.2 ⟨z, hz, rfl⟩)
  refine ⟨hl, fun x hx => hgh x (List.mem_append.2 (.inl hx)), fun x hx => hgh x (List.mem_append.2 (.inr hx)), ?_, ?_, ?_, ?_⟩
  · intro x hx
    obtain ⟨z, hz, rfl⟩ := List.mem_map.1 hx
    exact (a z hz).1.2.1
  · intro x hx
    obtain ⟨z, hz, rfl⟩ := List.mem_map.1 hx
    exact (a z hz).1.2.2
  · intro x hx
    obtain ⟨z, hz, rfl⟩ := List.mem_map.1 hx
    obtain ⟨_, ss, hs, hle⟩ := a z hz
    have e : ss = z.1.us := SlA.same hs (H.rw z hz)
    rw [← e]
    exact hle
  · intro x hx
    obtain ⟨z, hz, rfl⟩ := List.mem_map.1 hx
    obtain ⟨⟨⟨_, _, ss, hs, hle, _⟩, _⟩, _⟩ := a z hz
    have e : ss = z.1.us := SlA.same hs (H.rw z hz)
    rw [← e]
    exact hle
end Go.Proofs.YtnhkgfgbhedphaaGreatDoor
namespace Go.Proofs.YtnhkgfgbhedphaaGreatDoor
open Go.RowKit Go.Shelf

theorem right_any {w : World} {v0 v1 v2 v3 : Value} {p : Pd} {zs : List (Qd × Value)} (H : PolD w v0 v1 v2 v3 p zs) (hle : LeP p 4294967 40) (hl : p.l.length ≤ 80) (hg : p.g.length ≤ 40) (hh : p.h.length ≤ 40) (hq : p.q.length ≤ 100) :
    Calls Tryz.prog 31 #[pv v0 v1 v2 v3] w fun e w' => (∃ b, e = .returned (.bool b) ∧ (b = true ↔ RightD p)) ∧ Below w.heap.size w w' := by
  have hm : ∀ z ∈ zs, z.1 ∈ p.q := fun z hz => by rw [← H.z]; exact List.mem_map_of_mem hz
  refine (policy_RightL v0 v1 v2 v3 p.l p.g p.h (zs.map qz) w (H.at (hle.mono (by decide) (Nat.le_refl _))) hl hg hh (by rw [H.qlen]; exact hq) (fun x hx => hle.l x hx) (fun x hx => (List.mem_append.1 hx).elim (hle.g x) (hle.h x)) (fun q hq => by
    obtain ⟨z, hz, rfl⟩ := List.mem_map.1 hq
    exact ⟨hle.qa _ (hm z hz), hle.qb _ (hm z hz)⟩) (FAt w) (H.who hle (by decide)) (fun q hq s hs => by
    obtain ⟨z, hz, rfl⟩ := List.mem_map.1 hq
    rw [H.F z hz] at hs
    have := hle.qs _ (hm z hz) s hs
    omega)).mono ?_
  rintro e w1 ⟨⟨b, rfl, hb⟩, hw⟩
  exact ⟨⟨b, rfl, hb.trans (rightD_iff H.z H.F hl hg hh)⟩, hw⟩
end Go.Proofs.YtnhkgfgbhedphaaGreatDoor
namespace Go.Proofs.YtnhkgfgbhedphaaGreatDoor
open Go.RowKit Go.Shelf

theorem ref4_UniversalQ (k : Int) (w : World) : Calls Tryz.prog 133 #[.int .i64 k] w fun e w' => e = .returned (.bool (univB k)) ∧ w' = w := by
  have R := Lib.hid (show univB k = (decide (k = 1) || decide (k = 3) || decide (k = 5) || decide (k = 6)) from rfl)
  generalize univB k = r at *
  go_enter Tryz.func133, Tryz.ntmps133
  by_cases h1 : k = 1
  · have d1 : (k == 1) = true := by simp [h1]
    have R2 := Lib.hid (show r = true by rw [R.out, decide_eq_true h1]; rfl)
    clear h1
    go_wp2
    go_ret
    exact ⟨ret_b R2.out.symm, rfl⟩
  have d1 : (k == 1) = false := by simp [h1]
  by_cases h3 : k = 3
  · have d3 : (k == 3) = true := by simp [h3]
    have R2 := Lib.hid (show r = true by rw [R.out, decide_eq_true h3, Bool.or_true]; rfl)
    clear h1 h3
    go_wp2
    go_ret
    exact ⟨ret_b R2.out.symm, rfl⟩
  have d3 : (k == 3) = false := by simp [h3]
  by_cases h5 : k = 5
  · have d5 : (k == 5) = true := by simp [h5]
    have R2 := Lib.hid (show r = true by rw [R.out, decide_eq_true h5, Bool.or_true]; rfl)
    clear h1 h3 h5
    go_wp2
    go_ret
    exact ⟨ret_b R2.out.symm, rfl⟩
  have d5 : (k == 5) = false := by simp [h5]
  by_cases h6 : k = 6
  · have d6 : (k == 6) = true := by simp [h6]
    have R2 := Lib.hid (show r = true by rw [R.out, decide_eq_true h6, Bool.or_true])
    clear h1 h3 h5 h6
    go_wp2
    go_ret
    exact ⟨ret_b R2.out.symm, rfl⟩
  · have d6 : (k == 6) = false := by simp [h6]
    have R2 := Lib.hid (show r = false by rw [R.out, decide_eq_false h1, decide_eq_false h3, decide_eq_false h5, decide_eq_false h6]; rfl)
    clear h1 h3 h5 h6
    go_wp2
    go_ret
    exact ⟨ret_b R2.out.symm, rfl⟩
end Go.Proofs.YtnhkgfgbhedphaaGreatDoor
namespace Go.Proofs.YtnhkgfgbhedphaaGreatDoor
open Go.RowKit Go.Shelf

theorem ref4_Words (k : Int) (h1 : 1 ≤ k) (h6 : k ≤ 6) (w : World) : Calls Tryz.prog 134 #[.int .i64 k] w fun e w' => e = .returned (.string (wordsQ k)) ∧ w' = w := by
  rcases (show k = 1 ∨ k = 2 ∨ k = 3 ∨ k = 4 ∨ k = 5 ∨ k = 6 by omega) with rfl | rfl | rfl | rfl | rfl | rfl
  all_goals (
    go_enter Tryz.func134, Tryz.ntmps134
    go_wp2
    go_ret
    exact ⟨rfl, rfl⟩)
end Go.Proofs.YtnhkgfgbhedphaaGreatDoor
namespace Go.Proofs.YtnhkgfgbhedphaaGreatDoor
open Go.RowKit Go.Shelf

theorem ref3_RoleQ (r : Rl) (w : World) (hs : r.le 1000000000000000) : Calls Tryz.prog 48 #[rv r] w fun e w' => e = .returned (.string (roleT r)) ∧ Below w.heap.size w w' := by
  obtain ⟨o, n⟩ := r
  obtain ⟨h1, h2⟩ := hs
  dsimp only at h1 h2
  go_enter Tryz.func48, Tryz.ntmps48
  go_wp2
  go_ret
  exact ⟨rfl, (Below.refl _ _).alloc (Nat.le_refl _) _⟩
theorem ref4_WordsA (k : Int) (w : World) : Calls Tryz.prog 134 #[.int .i64 k] w fun e w' => e = .returned (.string (wordsQ k)) ∧ w' = w := by
  by_cases h : 1 ≤ k ∧ k ≤ 6
  · exact ref4_Words k h.1 h.2 w
  have R := Lib.hid (show wordsQ k = emp by unfold wordsQ; rw [if_neg (by omega), if_neg (by omega), if_neg (by omega), if_neg (by omega), if_neg (by omega), if_neg (by omega)])
  generalize wordsQ k = r at *
  have d1 : (k == 1) = false := by simp; omega
  have d2 : (k == 2) = false := by simp; omega
  have d3 : (k == 3) = false := by simp; omega
  have d4 : (k == 4) = false := by simp; omega
  have d5 : (k == 5) = false := by simp; omega
  have d6 : (k == 6) = false := by simp; omega
  clear h
  go_enter Tryz.func134, Tryz.ntmps134
  go_wp2
  go_ret
  exact ⟨ret_s R.out.symm, rfl⟩
theorem tail_snocQ (sep : List UInt8) (xs : List (List UInt8)) (x : List UInt8) : Lib.joinTail sep (xs ++ [x]) = Lib.joinTail sep xs ++ (sep ++ x) := by
  unfold Lib.joinTail
  rw [List.map_append, List.flatten_append]
  simp
theorem tail_consQ (sep : List UInt8) (xs : List (List UInt8)) (x : List UInt8) : Lib.joinTail sep (x :: xs) = sep ++ x ++ Lib.joinTail sep xs := by
  unfold Lib.joinTail
  rw [List.map_cons, List.flatten_cons]
theorem tail_appQ (sep : List UInt8) (xs ys : List (List UInt8)) : Lib.joinTail sep (xs ++ ys) = Lib.joinTail sep xs ++ Lib.joinTail sep ys := by
  unfold Lib.joinTail
  rw [List.map_append, List.flatten_append]
theorem joinB_consQ (x : ByteArray) (r : List ByteArray) (sep : ByteArray) : bl (joinB (x :: r) sep) = bl x ++ Lib.joinTail (bl sep) (r.map bl) := by
  unfold joinB
  rw [List.map_cons, Lib.join_cons]
def headS (k : Int) : ByteArray := if univB k = true then ⟨#[97, 108, 119, 97, 121, 115, 32]⟩ else ⟨#[99, 97, 110, 32]⟩
theorem headS_bl (k : Int) : bl (headS k) = bl (headW k) ++ [32] := by
  unfold headS headW
  split <;> rfl
theorem words_tail {k : Int} (h1 : 1 ≤ k) (h6 : k ≤ 6) : Lib.joinTail [32] ((wordsL k).map bl) = [32] ++ bl (wordsQ k) := by
  rcases (show k = 1 ∨ k = 2 ∨ k = 3 ∨ k = 4 ∨ k = 5 ∨ k = 6 by omega) with rfl | rfl | rfl | rfl | rfl | rfl <;> rfl
theorem wordsQ_len (k : Int) : (wordsQ k).size ≤ 8 := by
  unfold wordsQ
  (repeat' split) <;> decide
def frontS (k : Int) (a b : Rl) : ByteArray := if 5 ≤ k then headS k ++ (roleT a ++ ⟨#[32]⟩ ++ wordsQ k) ++ (⟨#[32]⟩ ++ roleT b) else headS k ++ (roleT a ++ ⟨#[32]⟩ ++ wordsQ k)
theorem text_front {q : Qd} (h1 : 1 ≤ q.k) (h6 : q.k ≤ 6) : bl (textQ q) = bl (frontS q.k q.a q.b) ++ Lib.joinTail [32] (q.us.map bl) := by
  unfold textQ partsQ frontS
  have e : bl (⟨#[32]⟩ : ByteArray) = [32] := rfl
  rw [joinB_consQ, List.map_cons, tail_consQ, List.map_append, tail_appQ, List.map_append, tail_appQ, e, words_tail h1 h6]
  by_cases h5 : 5 ≤ q.k
  · have hs : secB q.k = true := by unfold secB; simp; omega
    rw [if_pos h5, if_pos hs]
    simp only [bl_append, headS_bl, e, List.map_cons, List.map_nil, tail_consQ]
    simp [Lib.joinTail]
  · have hs : ¬ secB q.k = true := by unfold secB; simp; omega
    rw [if_neg h5, if_neg hs]
    simp only [bl_append, headS_bl, e]
    simp [Lib.joinTail]
set_option maxRecDepth 100000 in
set_option maxHeartbeats 8000000 in
theorem ref4_PrintQ (q : Qv) (us : List ByteArray) (w : World) (hla : q.a.le 4294967) (hlb : q.b.le 4294967) (hu : SlA w 1 q.w us.length (strs us)) (hz : ∀ s ∈ us, s.size ≤ 9223372036854775807) :
    Calls Tryz.prog 85 #[qv q] w fun e w' => e = .returned (.string (printQ q us)) ∧ Below w.heap.size w w' := by
  have RT := Lib.hid (fun W (hb : Below w.heap.size w W) => ref4_RightL q us W (hla.mono (by decide)) (hlb.mono (by decide)) (hu.below hb) hz)
  have PQ := Lib.hid (show printQ q us = if rightQ q us = true then textQ ⟨q.k, q.a, q.b, us⟩ else emp from rfl)
  have GD := Lib.hid (fun h => good_of (q := q) (us := us) h)
  have PA := Lib.hid (fun W => ref3_RoleQ q.a W (hla.mono (by decide)))
  have PB := Lib.hid (fun W => ref3_RoleQ q.b W (hlb.mono (by decide)))
  have hra : (roleT q.a).size ≤ 8589935 := by unfold roleT; rw [ByteArray.size_append, ByteArray.size_append]; have := hla.1; have := hla.2; show q.a.o.size + 1 + q.a.n.size ≤ _; omega
  have hrb : (roleT q.b).size ≤ 8589935 := by unfold roleT; rw [ByteArray.size_append, ByteArray.size_append]; have := hlb.1; have := hlb.2; show q.b.o.size + 1 + q.b.n.size ≤ _; omega
  have HU := Lib.hid hu
  generalize printQ q us = res at *
  obtain ⟨k, ⟨x1, x2⟩, ⟨x3, x4⟩, wv⟩ := q
  dsimp only at HU PQ GD PA PB hu hra hrb
  obtain ⟨wo, uc, rfl⟩ := hu.form
  clear hu hla hlb hz
  generalize rightQ ⟨k, ⟨x1, x2⟩, ⟨x3, x4⟩, .slice wo us.length uc⟩ us = r at *
  obtain ⟨W0, hW0⟩ : ∃ W, W = w.alloc (.cells #[.int .i64 k, .string x1, .string x2, .string x3, .string x4, .slice wo us.length uc] 66) := ⟨_, rfl⟩
  have HT := Lib.hid (show OneAt w #[.int .i64 k, .string x1, .string x2, .string x3, .string x4, .slice wo us.length uc] W0 by rw [hW0]; exact ⟨Blk.new w _ _, (Below.refl _ _).alloc (Nat.le_refl _) _⟩)
  have RT0 := Lib.hid (RT.out W0 HT.out.low)
  clear RT
  cases r with
  | false =>
    have R := Lib.hid (show res = emp by rw [PQ.out]; rfl)
    obtain ⟨ca, fa, za⟩ := HT.out.a
    subst hW0
    go_enter Tryz.func85, Tryz.ntmps85
    go_wp2_with fail
    refine RT0.out.mono ?_
    rintro e w1 ⟨rfl, hb1⟩
    have HB := Lib.hid (HT.out.low.trans (hb1.mono HT.out.low.size))
    clear hb1
    go_wp2
    go_ret
    exact ⟨ret_s R.out.symm, HB.out⟩
  | true =>
    have G := GD.out rfl
    have hul : us.length ≤ 12 := G.few
    have hus := Lib.hid (show ∀ x ∈ us, x.size ≤ 8 from fun x hx => isP_size' (G.p x hx))
    have RES := Lib.hid (show bl res = bl (frontS k ⟨x1, x2⟩ ⟨x3, x4⟩) ++ Lib.joinTail [32] (us.map bl) by rw [PQ.out]; exact text_front (q := ⟨k, ⟨x1, x2⟩, ⟨x3, x4⟩, us⟩) G.lo G.hi)
    have UN := Lib.hid (fun W => ref4_UniversalQ k W)
    have WD := Lib.hid (fun W => ref4_WordsA k W)
    have FS := Lib.hid (show frontS k ⟨x1, x2⟩ ⟨x3, x4⟩ = if 5 ≤ k then headS k ++ (roleT ⟨x1, x2⟩ ++ ⟨#[32]⟩ ++ wordsQ k) ++ (⟨#[32]⟩ ++ roleT ⟨x3, x4⟩) else headS k ++ (roleT ⟨x1, x2⟩ ++ ⟨#[32]⟩ ++ wordsQ k) from rfl)
    have HS := Lib.hid (show headS k = if univB k = true then ⟨#[97, 108, 119, 97, 121, 115, 32]⟩ else ⟨#[99, 97, 110, 32]⟩ from rfl)
    have hwl := wordsQ_len k
    generalize frontS k ⟨x1, x2⟩ ⟨x3, x4⟩ = fs at *
    generalize headS k = hs at *
    generalize wordsQ k = wq at *
    generalize univB k = ub at *
    generalize roleT ⟨x1, x2⟩ = ra at *
    generalize roleT ⟨x3, x4⟩ = rb at *
    have hhs : hs.size ≤ 7 := by rw [HS.out]; split <;> decide
    clear G GD PQ
    obtain ⟨ca, fa, za⟩ := HT.out.a
    subst hW0
    go_enter Tryz.func85, Tryz.ntmps85
    go_wp2_with fail
    refine RT0.out.mono ?_
    rintro e w1 ⟨rfl, hb1⟩
    have HT := Lib.hid (HT.out.later hb1)
    clear hb1 RT0 ca fa za
    obtain ⟨ca, fa, za⟩ := HT.out.a
    go_wp2_with fail
    refine (UN.out _).mono ?_
    rintro e w2 ⟨rfl, hw2⟩
    subst hw2
    go_upto_if 11 with fail
    go_cut [3] (fun s3 wx => ∃ V : World, V = wx ∧ s3 = .string hs ∧ Hid (OneAt w #[.int .i64 k, .string x1, .string x2, .string x3, .string x4, .slice wo us.length uc] V))
    case first =>
      cases ub with
      | true =>
        replace HS := Lib.hid (show hs = ⟨#[97, 108, 119, 97, 121, 115, 32]⟩ by rw [HS.out]; rfl)
        go_wp2
        go_meet
        exact ⟨_, rfl, by rw [HS.out], HT⟩
      | false =>
        replace HS := Lib.hid (show hs = ⟨#[99, 97, 110, 32]⟩ by rw [HS.out]; rfl)
        go_wp2
        go_meet
        exact ⟨_, rfl, by rw [HS.out], HT⟩
    case rest =>
    clear HT
    obtain ⟨V, rfl, rfl, HT⟩ := hcut
    clear HS UN ca fa za
    have hs1 : (ra ++ ⟨#[32]⟩ : ByteArray).size = ra.size + 1 := by rw [ByteArray.size_append]; rfl
    have hs2 : (ra ++ ⟨#[32]⟩ ++ wq : ByteArray).size = ra.size + 1 + wq.size := by rw [ByteArray.size_append, hs1]
    have hs3 : (hs ++ (ra ++ ⟨#[32]⟩ ++ wq) : ByteArray).size = hs.size + (ra.size + 1 + wq.size) := by rw [ByteArray.size_append, hs2]
    have l1 : ¬ 9223372036854775807 < ra.size + 1 := by omega
    have l2 : ¬ 9223372036854775807 < ra.size + 1 + wq.size := by omega
    have l3 : ¬ 9223372036854775807 < hs.size + (ra.size + 1 + wq.size) := by omega
    go_upto_region 6 with fail
    go_cut [3] (fun s3 wx => ∃ V : World, V = wx ∧ s3 = .string (hs ++ (ra ++ ⟨#[32]⟩ ++ wq)) ∧ Hid (OneAt w #[.int .i64 k, .string x1, .string x2, .string x3, .string x4, .slice wo us.length uc] V))
    case first =>
      refine wp_region_held_drew (S := (fun W => ∀ o, W.cell? ⟨w.heap.size, o, none⟩ = (#[.int .i64 k, .string x1, .string x2, .string x3, .string x4, .slice wo us.length uc] : Array Value)[o]?)) (by kernel_rfl) HT.out.drew.a.1 (fun hHeld => ?_)
      have HT := Lib.hid HT.out.drew
      obtain ⟨wk, hwk⟩ : ∃ W, W = V.drew := ⟨_, rfl⟩
      rw [← hwk] at HT hHeld ⊢
      clear hwk
      (refine hyes 0 ?_); (refine hyes 1 ?_); (refine hyes 2 ?_); (refine hyes 5 ?_); (refine hyes 6 ?_); (try simp only [Act.put, List.setIfInBounds_toArray, List.set])
      (refine held_call 3 rfl (by kernel_rfl) (fun K hK => ?_); go_simp)
      go_at_call 48; refine (PA.out _).mono ?_; rintro e wz3 ⟨rfl, hbq⟩
      have HT := Lib.hid (HT.out.later hbq)
      clear hbq
      (refine hK.out _ _ (HT.out.a.1) (fun hHeld => ?_); clear hK K; (try simp only [Act.put, List.setIfInBounds_toArray, List.set]))
      (refine hyes 4 ?_); (try simp only [Act.put, List.setIfInBounds_toArray, List.set])
      (refine held_call 7 rfl (by kernel_rfl) (fun K hK => ?_); go_simp)
      go_at_call 134; refine (WD.out _).mono ?_; rintro e wz7 ⟨rfl, rfl⟩
      (refine hK.out _ _ (HT.out.a.1) (fun hHeld => ?_); clear hK K; (try simp only [Act.put, List.setIfInBounds_toArray, List.set]))
      (refine hyes 8 ?_); (refine hyes 9 ?_); (refine hyes 10 ?_); (try simp only [Act.put, List.setIfInBounds_toArray, List.set])
      refine wpAnyH_done (by kernel_rfl) ?_ _
      clear hHeld
      go_wp2_with fail
      go_meet
      exact ⟨_, rfl, rfl, HT⟩
    case rest =>
    clear HT
    obtain ⟨V, rfl, rfl, HT⟩ := hcut
    obtain ⟨ca, fa, za⟩ := HT.out.a
    go_upto_if 24 with fail
    clear ca fa za
    go_cut [3] (fun s3 wx => ∃ V : World, V = wx ∧ s3 = .string fs ∧ Hid (OneAt w #[.int .i64 k, .string x1, .string x2, .string x3, .string x4, .slice wo us.length uc] V) ∧ fs.size ≤ 20000000)
    case first =>
      obtain ⟨ca, fa, za⟩ := HT.out.a
      by_cases h5 : 5 ≤ k
      · have d5 : decide (5 ≤ k) = true := decide_eq_true h5
        have FS := Lib.hid (FS.out.trans (if_pos h5))
        have hs4 : (⟨#[32]⟩ ++ rb : ByteArray).size = 1 + rb.size := by rw [ByteArray.size_append]; rfl
        have hs5 : fs.size = hs.size + (ra.size + 1 + wq.size) + (1 + rb.size) := by rw [FS.out, ByteArray.size_append, hs3, hs4]
        have hs6 : (hs ++ (ra ++ ⟨#[32]⟩ ++ wq) ++ (⟨#[32]⟩ ++ rb) : ByteArray).size = hs.size + (ra.size + 1 + wq.size) + (1 + rb.size) := by rw [ByteArray.size_append, hs3, hs4]
        clear h5
        rw [d5]
        go_wp2_with fail
        refine (PB.out _).mono ?_
        rintro e w3 ⟨rfl, hbq⟩
        have HT := Lib.hid (HT.out.later hbq)
        clear hbq
        go_wp2
        go_meet
        exact ⟨_, rfl, by rw [FS.out], HT, by omega⟩
      · have d5 : decide (5 ≤ k) = false := decide_eq_false h5
        have FS := Lib.hid (FS.out.trans (if_neg h5))
        have hs5 : fs.size = hs.size + (ra.size + 1 + wq.size) := by rw [FS.out, hs3]
        clear h5
        rw [d5]
        go_wp2_with fail
        go_meet
        exact ⟨_, rfl, by rw [FS.out], HT, by omega⟩
    case rest =>
    clear HT hs1 hs2 hs3 l1 l2 l3
    obtain ⟨V, rfl, rfl, HT, hfs⟩ := hcut
    obtain ⟨ca, fa, za⟩ := HT.out.a
    clear FS PA PB WD hra hrb hwl hhs
    go_wp2_with fail
    go_loopw [3, 34] (fun o i wr => ∃ (j : Nat) (s : ByteArray), j ≤ us.length ∧ i = .int .i64 j ∧ o = .string s ∧ wr = V ∧ Hid (bl s = bl fs ++ Lib.joinTail [32] ((us.take j).map bl)) ∧ s.size ≤ 20000000 + j * 9) (fun _ i _ => us.length - (intOf i).toNat)
    case atStart => exact ⟨0, fs, by omega, rfl, rfl, rfl, Lib.hid (by simp [Lib.joinTail]), by omega⟩
    case round =>
      obtain ⟨j, s, hj, rfl, rfl, rfl, HS, hsl⟩ := hrel
      by_cases hlt : j < us.length
      · obtain ⟨b3, o3, c3, he3, hc3, hm3, hb3, hx3⟩ := (HU.out.below HT.out.low).pos (by omega)
        simp only [Value.slice.injEq, true_and] at he3
        obtain ⟨rfl, rfl⟩ := he3
        have p3 := hx3 j _ (strs_get hlt)
        have hym : us[j].size ≤ 8 := hus.out _ (List.getElem_mem hlt)
        have HN := Lib.hid (show (us.take (j + 1)).map bl = (us.take j).map bl ++ [bl us[j]] by rw [List.take_succ_eq_append_getElem hlt, List.map_append]; rfl)
        clear hx3
        generalize us[j] = y at *
        have h1 : (⟨#[32]⟩ ++ y : ByteArray).size = 1 + y.size := by rw [ByteArray.size_append]; rfl
        have h2 : (s ++ (⟨#[32]⟩ ++ y) : ByteArray).size = s.size + (1 + y.size) := by rw [ByteArray.size_append, h1]
        have HS2 := Lib.hid (show bl (s ++ (⟨#[32]⟩ ++ y)) = bl fs ++ Lib.joinTail [32] ((us.take (j + 1)).map bl) by
          rw [HN.out, tail_snocQ, bl_append, HS.out, bl_append, List.append_assoc])
        have H3 := Lib.hid (show (s ++ (⟨#[32]⟩ ++ y) : ByteArray).size ≤ 20000000 + (j + 1) * 9 by rw [h2]; omega)
        go_wp2_with fail
        exact ⟨⟨j + 1, s ++ (⟨#[32]⟩ ++ y), by omega, by go_num, rfl, trivial, HS2, H3.out⟩, by simp [intOf]; omega⟩
      · have HE := Lib.hid (show s = res from bl_inj.1 (by rw [RES.out, HS.out, List.take_of_length_le (show us.length ≤ j by omega)]))
        go_wp2_with fail
        go_ret
        exact ⟨by rw [HE.out]; rfl, HT.out.low⟩
end Go.Proofs.YtnhkgfgbhedphaaGreatDoor
namespace Go.Proofs.YtnhkgfgbhedphaaGreatDoor
open Go.RowKit Go.Shelf

set_option maxRecDepth 100000 in
set_option maxHeartbeats 8000000 in
theorem ref5_Print (v0 v1 v2 v3 : Value) (p : Pd) (zs : List (Qd × Value)) (w : World) (hp : PolD w v0 v1 v2 v3 p zs) (hle : LeP p 40 40) (hl : p.l.length ≤ 30) (hg : p.g.length ≤ 30) (hh : p.h.length ≤ 30) (hq : p.q.length ≤ 30) :
    Calls Tryz.prog 35 #[pv v0 v1 v2 v3] w fun e w' => PrintR p e ∧ Below w.heap.size w w' := by
  have hzl : zs.length = p.q.length := by rw [← hp.z, List.length_map]
  have hm : ∀ z ∈ zs, z.1 ∈ p.q := fun z hz => by rw [← hp.z]; exact List.mem_map_of_mem hz
  have RI := rightD_iff (p := p) (zs := zs) hp.z hp.F (by omega) (by omega) (by omega)
  have RT := Lib.hid (fun W (hb : Below w.heap.size w W) => ref5_RightL v0 v1 v2 v3 p.l p.g p.h (zs.map qz) W ((hp.at (hle.mono (by decide) (Nat.le_refl _))).below hb) hl hg hh (by rw [hp.qlen]; exact hq) (fun x hx => hle.l x hx) (FAt w) ((hp.who hle (Nat.le_refl _)).below hb) (fun q hq s hs => by
    obtain ⟨z, hz, rfl⟩ := List.mem_map.1 hq
    rw [hp.F z hz] at hs
    have := hle.qs _ (hm z hz) s hs
    omega))
  have HP := Lib.hid hp
  have HM := Lib.hid hm
  obtain ⟨a0, c0, rfl⟩ := hp.rs.form
  obtain ⟨a1, c1, rfl⟩ := hp.rg.form
  obtain ⟨a2, c2, rfl⟩ := hp.rh.form
  obtain ⟨a3, c3, rfl⟩ := hp.rq.form
  have HT := Lib.hid (show OneAt w #[.slice a0 p.l.length c0, .slice a1 p.g.length c1, .slice a2 p.h.length c2, .slice a3 zs.length c3] (w.alloc (.cells #[.slice a0 p.l.length c0, .slice a1 p.g.length c1, .slice a2 p.h.length c2, .slice a3 zs.length c3] 26)) from ⟨Blk.new w _ _, (Below.refl _ _).alloc (Nat.le_refl _) _⟩)
  have HQ := Lib.hid hzl
  have hz100 : zs.length ≤ 100 := by omega
  clear hp hle hzl hm
  go_enter Tryz.func35, Tryz.ntmps35
  go_wp2_with fail
  refine (RT.out _ HT.out.low).mono ?_
  rintro e w1 ⟨⟨b, rfl, hb⟩, hb1⟩
  have HT := Lib.hid (HT.out.later hb1)
  have HRI := Lib.hid (hb.trans RI)
  clear hb1 hb RT RI
  cases b with
  | false =>
    go_wp2_with fail
    go_ret
    exact ⟨⟨emp, rfl, fun h => absurd (HRI.out.2 h) (by decide), fun _ => rfl⟩, HT.out.low⟩
  | true =>
    have HR := Lib.hid (HRI.out.1 rfl)
    clear HRI
    have HTX := Lib.hid (show textP p = ⟨(joinN (p.l.map printS ++ p.g.map growT ++ p.h.map shrinkT ++ p.q.map textQ)).toArray⟩ from rfl)
    have HB0 := Lib.hid (Below.refl w1.heap.size w1)
    obtain ⟨ca, fa, za⟩ := HT.out.a
    have hR0 : w.heap.size < w1.heap.size := za
    go_wp2_with fail
    go_loopw [3, 18] (fun sv i wr => ∃ (k : Nat) (tt : ByteArray), k ≤ p.l.length ∧ i = .int .i64 k ∧ sv = .string tt ∧ Hid (bl tt = joinN ([] ++ (p.l.map printS).take k)) ∧ tt.size ≤ 0 + k * 300 ∧ Hid (Below w1.heap.size w1 wr)) (fun _ i _ => p.l.length - (intOf i).toNat)
    case atStart => exact ⟨0, emp, by omega, rfl, rfl, Lib.hid rfl, Nat.zero_le _, HB0⟩
    case round =>
      obtain ⟨k, tt, hk, rfl, rfl, HA, hacc, HB⟩ := hrel
      have hsz := HB.out.size
      have HW := Lib.hid (HT.out.low.trans (HB.out.mono HT.out.low.size))
      obtain ⟨ca, fa, za⟩ : Blk wr w.heap.size #[.slice a0 p.l.length c0, .slice a1 p.g.length c1, .slice a2 p.h.length c2, .slice a3 zs.length c3] := ⟨fun o => (HB.out.cell (p := ⟨w.heap.size, o, none⟩) hR0).trans (HT.out.a.1 o), fun o => (HB.out.frozen (p := ⟨w.heap.size, o, none⟩) hR0).trans (HT.out.a.2.1 o), Nat.lt_of_lt_of_le hR0 hsz⟩
      by_cases hlt : k < p.l.length
      · obtain ⟨b3, o3, e3, he3, hc3, hm3, hb3, hx3⟩ := (HP.out.rs.below HW.out).pos (by omega)
        simp only [Value.slice.injEq, true_and] at he3
        obtain ⟨rfl, rfl⟩ := he3
        obtain ⟨p0, p1, p2, p3, p4, p5, p6, p7, p8⟩ := st_cell (w := wr) hx3 k hlt
        have hr := HR.out.ok.l _ (List.getElem_mem hlt)
        have SP := Lib.hid (fun W (_ : Below wr.heap.size wr W) => ref3_Print p.l[k] W (st_le_mono (rightS_le hr) (by decide)))
        have hps := printS_size hr
        have HN := Lib.hid (show bl tt ++ (bl (printS p.l[k]) ++ [10]) = joinN ([] ++ (p.l.map printS).take (k + 1)) by
          rw [HA.out, take_snocP _ _ hlt]
          simp only [joinN_app, joinN_one, List.nil_append])
        clear hx3 HA
        generalize printS p.l[k] = y at *
        generalize p.l[k] = st at *
        obtain ⟨k0, ⟨h1, h2⟩, who, ⟨A1, A2⟩, ⟨B1, B2⟩, via⟩ := st
        have HN2 := Lib.hid (show bl (tt ++ (y ++ ⟨#[10]⟩)) = joinN ([] ++ (p.l.map printS).take (k + 1)) by rw [bl_append, bl_append]; exact HN.out)
        have HZ2 := Lib.hid (show (tt ++ (y ++ ⟨#[10]⟩) : ByteArray).size ≤ 0 + (k + 1) * 300 by rw [ByteArray.size_append, ByteArray.size_append]; show _ + (_ + 1) ≤ _; omega)
        clear HN
        have hba : Below wr.heap.size wr (wr.alloc (.cells #[.int .i64 k0, .string h1, .string h2, .string who, .string A1, .string A2, .string B1, .string B2, .string via] 63)) := (Below.refl _ _).alloc (Nat.le_refl _) _
        go_wp2_with fail
        refine (SP.out _ hba).mono ?_
        rintro e w4 ⟨rfl, hb4⟩
        have HB4 := Lib.hid (HB.out.trans ((hba.trans (hb4.mono hba.size)).mono HB.out.size))
        clear hb4 hba SP
        go_wp2_with fail
        skip
        exact ⟨⟨k + 1, tt ++ (y ++ ⟨#[10]⟩), by omega, by go_num, rfl, HN2, HZ2.out, HB4⟩, by simp [intOf]; omega⟩
      · have HX0 := Lib.hid (show bl tt = joinN (p.l.map printS) by
          have h := HA.out
          rw [List.take_of_length_le (by simp; omega)] at h
          exact h)
        have hk0 : k = p.l.length := by omega
        subst hk0
        clear hlt
        obtain ⟨wr0, rfl⟩ : ∃ X, X = wr := ⟨_, rfl⟩
        go_wp2_with fail
        go_loopw [3, 31] (fun sv i wr => ∃ (k : Nat) (tt : ByteArray), k ≤ p.g.length ∧ i = .int .i64 k ∧ sv = .string tt ∧ Hid (bl tt = joinN (p.l.map printS ++ (p.g.map growT).take k)) ∧ tt.size ≤ 30000 + k * 300 ∧ Hid (Below w1.heap.size w1 wr)) (fun _ i _ => p.g.length - (intOf i).toNat)
        case atStart => exact ⟨0, tt, by omega, rfl, rfl, Lib.hid (by rw [HX0.out]; simp), by omega, HB⟩
        case round =>
          obtain ⟨k, tt, hk, rfl, rfl, HA, hacc, HB⟩ := hrel
          have hsz := HB.out.size
          have HW := Lib.hid (HT.out.low.trans (HB.out.mono HT.out.low.size))
          obtain ⟨ca, fa, za⟩ : Blk wr w.heap.size #[.slice a0 p.l.length c0, .slice a1 p.g.length c1, .slice a2 p.h.length c2, .slice a3 zs.length c3] := ⟨fun o => (HB.out.cell (p := ⟨w.heap.size, o, none⟩) hR0).trans (HT.out.a.1 o), fun o => (HB.out.frozen (p := ⟨w.heap.size, o, none⟩) hR0).trans (HT.out.a.2.1 o), Nat.lt_of_lt_of_le hR0 hsz⟩
          by_cases hlt : k < p.g.length
          · obtain ⟨b3, o3, e3, he3, hc3, hm3, hb3, hx3⟩ := (HP.out.rg.below HW.out).pos (by omega)
            simp only [Value.slice.injEq, true_and] at he3
            obtain ⟨rfl, rfl⟩ := he3
            obtain ⟨p0, p1⟩ := rl_cell (w := wr) hx3 k hlt
            have hr := HR.out.ok.g _ (List.getElem_mem hlt)
            have SP := Lib.hid (fun W (_ : Below wr.heap.size wr W) => ref3_Role p.g[k] W (rl_le_mono (isRole_le hr) (by decide)))
            have hps := growT_size hr
            have hrs := role_size hr
            have HYX := Lib.hid (show (⟨#[103, 114, 111, 119, 32]⟩ : ByteArray) ++ roleT p.g[k] = growT p.g[k] from bl_inj.1 (by rw [bl_append, growT_bl]; rfl))
            have HN := Lib.hid (show bl tt ++ (bl (growT p.g[k]) ++ [10]) = joinN (p.l.map printS ++ (p.g.map growT).take (k + 1)) by
              rw [HA.out, take_snocP _ _ hlt]
              simp only [joinN_app, joinN_one, List.append_assoc])
            clear hx3 HA
            generalize growT p.g[k] = y at *
            generalize roleT p.g[k] = x at *
            generalize p.g[k] = st at *
            obtain ⟨h1, h2⟩ := st
            have HN2 := Lib.hid (show bl (tt ++ (y ++ ⟨#[10]⟩)) = joinN (p.l.map printS ++ (p.g.map growT).take (k + 1)) by rw [bl_append, bl_append]; exact HN.out)
            have HZ2 := Lib.hid (show (tt ++ (y ++ ⟨#[10]⟩) : ByteArray).size ≤ 30000 + (k + 1) * 300 by rw [ByteArray.size_append, ByteArray.size_append]; show _ + (_ + 1) ≤ _; omega)
            clear HN
            have hba : Below wr.heap.size wr (wr.alloc (.cells #[.string h1, .string h2] 54)) := (Below.refl _ _).alloc (Nat.le_refl _) _
            go_wp2_with fail
            refine (SP.out _ hba).mono ?_
            rintro e w4 ⟨rfl, hb4⟩
            have HB4 := Lib.hid (HB.out.trans ((hba.trans (hb4.mono hba.size)).mono HB.out.size))
            clear hb4 hba SP
            go_wp2_with fail
            rw [HYX.out]
            exact ⟨⟨k + 1, tt ++ (y ++ ⟨#[10]⟩), by omega, by go_num, rfl, HN2, HZ2.out, HB4⟩, by simp [intOf]; omega⟩
          · have HX1 := Lib.hid (show bl tt = joinN (p.l.map printS ++ p.g.map growT) by
              have h := HA.out
              rw [List.take_of_length_le (by simp; omega)] at h
              exact h)
            have hk0 : k = p.g.length := by omega
            subst hk0
            clear hlt
            obtain ⟨wr1, rfl⟩ : ∃ X, X = wr := ⟨_, rfl⟩
            go_wp2_with fail
            go_loopw [3, 45] (fun sv i wr => ∃ (k : Nat) (tt : ByteArray), k ≤ p.h.length ∧ i = .int .i64 k ∧ sv = .string tt ∧ Hid (bl tt = joinN (p.l.map printS ++ p.g.map growT ++ (p.h.map shrinkT).take k)) ∧ tt.size ≤ 60000 + k * 300 ∧ Hid (Below w1.heap.size w1 wr)) (fun _ i _ => p.h.length - (intOf i).toNat)
            case atStart => exact ⟨0, tt, by omega, rfl, rfl, Lib.hid (by rw [HX1.out]; simp), by omega, HB⟩
            case round =>
              obtain ⟨k, tt, hk, rfl, rfl, HA, hacc, HB⟩ := hrel
              have hsz := HB.out.size
              have HW := Lib.hid (HT.out.low.trans (HB.out.mono HT.out.low.size))
              obtain ⟨ca, fa, za⟩ : Blk wr w.heap.size #[.slice a0 p.l.length c0, .slice a1 p.g.length c1, .slice a2 p.h.length c2, .slice a3 zs.length c3] := ⟨fun o => (HB.out.cell (p := ⟨w.heap.size, o, none⟩) hR0).trans (HT.out.a.1 o), fun o => (HB.out.frozen (p := ⟨w.heap.size, o, none⟩) hR0).trans (HT.out.a.2.1 o), Nat.lt_of_lt_of_le hR0 hsz⟩
              by_cases hlt : k < p.h.length
              · obtain ⟨b3, o3, e3, he3, hc3, hm3, hb3, hx3⟩ := (HP.out.rh.below HW.out).pos (by omega)
                simp only [Value.slice.injEq, true_and] at he3
                obtain ⟨rfl, rfl⟩ := he3
                obtain ⟨p0, p1⟩ := rl_cell (w := wr) hx3 k hlt
                have hr := HR.out.ok.h _ (List.getElem_mem hlt)
                have SP := Lib.hid (fun W (_ : Below wr.heap.size wr W) => ref3_Role p.h[k] W (rl_le_mono (isRole_le hr) (by decide)))
                have hps := shrinkT_size hr
                have hrs := role_size hr
                have HYX := Lib.hid (show (⟨#[115, 104, 114, 105, 110, 107, 32]⟩ : ByteArray) ++ roleT p.h[k] = shrinkT p.h[k] from bl_inj.1 (by rw [bl_append, shrinkT_bl]; rfl))
                have HN := Lib.hid (show bl tt ++ (bl (shrinkT p.h[k]) ++ [10]) = joinN (p.l.map printS ++ p.g.map growT ++ (p.h.map shrinkT).take (k + 1)) by
                  rw [HA.out, take_snocP _ _ hlt]
                  simp only [joinN_app, joinN_one, List.append_assoc])
                clear hx3 HA
                generalize shrinkT p.h[k] = y at *
                generalize roleT p.h[k] = x at *
                generalize p.h[k] = st at *
                obtain ⟨h1, h2⟩ := st
                have HN2 := Lib.hid (show bl (tt ++ (y ++ ⟨#[10]⟩)) = joinN (p.l.map printS ++ p.g.map growT ++ (p.h.map shrinkT).take (k + 1)) by rw [bl_append, bl_append]; exact HN.out)
                have HZ2 := Lib.hid (show (tt ++ (y ++ ⟨#[10]⟩) : ByteArray).size ≤ 60000 + (k + 1) * 300 by rw [ByteArray.size_append, ByteArray.size_append]; show _ + (_ + 1) ≤ _; omega)
                clear HN
                have hba : Below wr.heap.size wr (wr.alloc (.cells #[.string h1, .string h2] 54)) := (Below.refl _ _).alloc (Nat.le_refl _) _
                go_wp2_with fail
                refine (SP.out _ hba).mono ?_
                rintro e w4 ⟨rfl, hb4⟩
                have HB4 := Lib.hid (HB.out.trans ((hba.trans (hb4.mono hba.size)).mono HB.out.size))
                clear hb4 hba SP
                go_wp2_with fail
                rw [HYX.out]
                exact ⟨⟨k + 1, tt ++ (y ++ ⟨#[10]⟩), by omega, by go_num, rfl, HN2, HZ2.out, HB4⟩, by simp [intOf]; omega⟩
              · have HX2 := Lib.hid (show bl tt = joinN (p.l.map printS ++ p.g.map growT ++ p.h.map shrinkT) by
                  have h := HA.out
                  rw [List.take_of_length_le (by simp; omega)] at h
                  exact h)
                have hk0 : k = p.h.length := by omega
                subst hk0
                clear hlt
                obtain ⟨wr2, rfl⟩ : ∃ X, X = wr := ⟨_, rfl⟩
                go_wp2_with fail
                go_loopw [3, 59] (fun sv i wr => ∃ (k : Nat) (tt : ByteArray), k ≤ zs.length ∧ i = .int .i64 k ∧ sv = .string tt ∧ Hid (bl tt = joinN (p.l.map printS ++ p.g.map growT ++ p.h.map shrinkT ++ (p.q.map textQ).take k)) ∧ tt.size ≤ 90000 + k * 300 ∧ Hid (Below w1.heap.size w1 wr)) (fun _ i _ => zs.length - (intOf i).toNat)
                case atStart => exact ⟨0, tt, by omega, rfl, rfl, Lib.hid (by rw [HX2.out]; simp), by omega, HB⟩
                case round =>
                  obtain ⟨k, tt, hk, rfl, rfl, HA, hacc, HB⟩ := hrel
                  have hsz := HB.out.size
                  have HW := Lib.hid (HT.out.low.trans (HB.out.mono HT.out.low.size))
                  obtain ⟨ca, fa, za⟩ : Blk wr w.heap.size #[.slice a0 p.l.length c0, .slice a1 p.g.length c1, .slice a2 p.h.length c2, .slice a3 zs.length c3] := ⟨fun o => (HB.out.cell (p := ⟨w.heap.size, o, none⟩) hR0).trans (HT.out.a.1 o), fun o => (HB.out.frozen (p := ⟨w.heap.size, o, none⟩) hR0).trans (HT.out.a.2.1 o), Nat.lt_of_lt_of_le hR0 hsz⟩
                  by_cases hlt : k < zs.length
                  · obtain ⟨b3, o3, e3, he3, hc3, hm3, hb3, hx3⟩ := (HP.out.rq.below HW.out).pos (by omega)
                    simp only [Value.slice.injEq, true_and] at he3
                    obtain ⟨rfl, rfl⟩ := he3
                    have hlt' : k < (zs.map qz).length := by simpa using hlt
                    have hqe : (zs.map qz)[k] = qz zs[k] := by simp
                    obtain ⟨p0, p1, p2, p3, p4, p5⟩ := q_cell (w := wr) (l := zs.map qz) hx3 k hlt'
                    rw [hqe] at p0 p1 p2 p3 p4 p5
                    have hzm := HM.out _ (List.getElem_mem hlt)
                    have hr := HR.out.ok.q _ hzm
                    have hus := (HP.out.below HW.out).rw _ (List.getElem_mem hlt)
                    have SP := Lib.hid (fun W (hb : Below wr.heap.size wr W) => ref4_PrintQ (qz zs[k]) zs[k].1.us W (rl_le_mono (good_a hr) (by decide)) (rl_le_mono (good_b hr) (by decide)) (hus.below hb) (fun s hs => Nat.le_trans (good_us hr s hs) (by decide)))
                    rw [show printQ (qz zs[k]) zs[k].1.us = textQ zs[k].1 from if_pos (right_iff.2 hr)] at SP
                    have hps := textQ_size _ hr
                    have HN := Lib.hid (show bl tt ++ (bl (textQ zs[k].1) ++ [10]) = joinN (p.l.map printS ++ p.g.map growT ++ p.h.map shrinkT ++ (p.q.map textQ).take (k + 1)) by
                      rw [HA.out, show (p.q.map textQ).take (k + 1) = (p.q.map textQ).take k ++ [textQ zs[k].1] from (by rw [← HP.out.z, List.map_map]; exact take_snocP (fun z => textQ z.1) zs hlt)]
                      simp only [joinN_app, joinN_one, List.append_assoc])
                    clear hx3 HA
                    clear hr hzm
                    generalize textQ zs[k].1 = y at *
                    generalize zs[k] = z at *
                    obtain ⟨⟨k0, ⟨x1, x2⟩, ⟨x3, x4⟩, us⟩, zv⟩ := z
                    dsimp only [qz] at hus p0 p1 p2 p3 p4 p5 SP
                    obtain ⟨wo, wc, rfl⟩ := hus.form
                    clear hus hqe
                    have HN2 := Lib.hid (show bl (tt ++ (y ++ ⟨#[10]⟩)) = joinN (p.l.map printS ++ p.g.map growT ++ p.h.map shrinkT ++ (p.q.map textQ).take (k + 1)) by rw [bl_append, bl_append]; exact HN.out)
                    have HZ2 := Lib.hid (show (tt ++ (y ++ ⟨#[10]⟩) : ByteArray).size ≤ 90000 + (k + 1) * 300 by rw [ByteArray.size_append, ByteArray.size_append]; show _ + (_ + 1) ≤ _; omega)
                    clear HN
                    have hba : Below wr.heap.size wr (wr.alloc (.cells #[.int .i64 k0, .string x1, .string x2, .string x3, .string x4, .slice wo us.length wc] 66)) := (Below.refl _ _).alloc (Nat.le_refl _) _
                    go_wp2_with fail
                    refine (SP.out _ hba).mono ?_
                    rintro e w4 ⟨rfl, hb4⟩
                    have HB4 := Lib.hid (HB.out.trans ((hba.trans (hb4.mono hba.size)).mono HB.out.size))
                    clear hb4 hba SP
                    go_wp2_with fail
                    skip
                    exact ⟨⟨k + 1, tt ++ (y ++ ⟨#[10]⟩), by omega, by go_num, rfl, HN2, HZ2.out, HB4⟩, by simp [intOf]; omega⟩
                  · have HX3 := Lib.hid (show bl tt = joinN (p.l.map printS ++ p.g.map growT ++ p.h.map shrinkT ++ p.q.map textQ) by
                      have h := HA.out
                      rw [List.take_of_length_le (by rw [List.length_map, ← HQ.out]; omega)] at h
                      exact h)
                    have hk0 : k = zs.length := by omega
                    subst hk0
                    clear hlt
                    obtain ⟨wr3, rfl⟩ : ∃ X, X = wr := ⟨_, rfl⟩
                    go_wp2_with fail
                    go_ret
                    exact ⟨⟨_, rfl, fun _ => by rw [HTX.out]; exact bl_inj.1 (by rw [HX3.out]), fun h => absurd HR.out h⟩, HT.out.low.trans (HB.out.mono HT.out.low.size)⟩
end Go.Proofs.YtnhkgfgbhedphaaGreatDoor
namespace Go.Proofs.YtnhkgfgbhedphaaGreatDoor
open Go.RowKit Go.Shelf

set_option maxRecDepth 100000 in
set_option maxHeartbeats 1000000 in
theorem ref1_SameT (va vb : Value) (l : List ByteArray) (w : World) (ha : SlA w 1 va l.length (strs l)) (hb : SlA w 1 vb l.length (strs l)) :
    Calls Tryz.prog 13 #[va, vb] w fun e w' => e = .returned (.bool true) ∧ ∃ n, w' = w.drewN n := by
  have hmax := ha.max
  have hne : ((l.length : Int) != (l.length : Int)) = false := by simp
  by_cases h0 : 0 < l.length
  · obtain ⟨b1, o1, c1, rfl, hc1, hm1, _, hx1⟩ := ha.pos h0
    obtain ⟨b2, o2, c2, rfl, hc2, hm2, _, hx2⟩ := hb.pos h0
    have HX1 := Lib.hid hx1
    have HX2 := Lib.hid hx2
    clear ha hb hx1 hx2
    go_enter Tryz.func13, Tryz.ntmps13
    go_wp2
    go_loopw [13] (fun i wr => ∃ k n : Nat, k ≤ l.length ∧ i = .int .i64 k ∧ wr = w.drewN n) (fun i _ => l.length - (intOf i).toNat)
    case atStart => exact ⟨0, 0, by omega, rfl, rfl⟩
    case round =>
      obtain ⟨k, n, hk, rfl, rfl⟩ := hrel
      by_cases hlt : k < l.length
      · have p0 := HX1.out k _ (strs_get hlt)
        have q0 := HX2.out k _ (strs_get hlt)
        go_wp2_with fail
        go_quiet (fail)
        go_wp2
        exact ⟨⟨k + 1, n + nq, by omega, by go_num, rfl⟩, by simp [intOf]; omega⟩
      · go_wp2
        go_ret
        exact ⟨rfl, n, rfl⟩
  · obtain ⟨a1, c1, rfl⟩ := ha.form
    obtain ⟨a2, c2, rfl⟩ := hb.form
    obtain rfl : l = [] := List.eq_nil_of_length_eq_zero (by omega)
    clear ha hb h0 hmax
    go_enter Tryz.func13, Tryz.ntmps13
    go_wp2
    go_loopw [13] (fun i wr => i = .int .i64 0 ∧ wr = w) (fun _ _ => 0)
    case atStart => exact ⟨rfl, rfl⟩
    case round =>
      obtain ⟨rfl, rfl⟩ := hrel
      go_wp2
      go_ret
      exact ⟨rfl, 0, rfl⟩
theorem ref1_SameB (va vb : Value) (l : List ByteArray) (w : World) (ha : SlA w 1 va l.length (strs l)) (hb : SlA w 1 vb l.length (strs l)) :
    Calls Tryz.prog 13 #[va, vb] w fun e w' => e = .returned (.bool true) ∧ Below w.heap.size w w' :=
  (ref1_SameT va vb l w ha hb).mono fun e w' ⟨he, n, hn⟩ => ⟨he, by rw [hn]; exact below_of_drewN n⟩
end Go.Proofs.YtnhkgfgbhedphaaGreatDoor
namespace Go.Proofs.YtnhkgfgbhedphaaGreatDoor
open Go.RowKit Go.Shelf

theorem take_moreT {α : Type} {l m : List α} {k : Nat} (h : l.take k = m.take k) (hl : k < l.length) (hm : k < m.length) (e : l[k] = m[k]) : l.take (k + 1) = m.take (k + 1) := by
  rw [List.take_succ_eq_append_getElem hl, List.take_succ_eq_append_getElem hm, h, e]
theorem same_endT {l m : List ByteArray} {k : Nat} (h : l.take k = m.take k) (hl : ¬ k < l.length) (hm : ¬ k < m.length) : decide (l = m) = true := by
  rw [List.take_of_length_le (by omega), List.take_of_length_le (by omega)] at h
  exact decide_eq_true h
theorem same_noT {l m : List ByteArray} {k : Nat} (hl : k < l.length) (hm : k < m.length) (e : ¬ l[k] = m[k]) : decide (l = m) = false := decide_eq_false (fun h => e (by subst h; rfl))
theorem same_lenT {l m : List ByteArray} (h : ¬ l.length = m.length) : decide (l = m) = false := decide_eq_false (fun e => h (by rw [e]))
set_option maxRecDepth 100000 in
set_option maxHeartbeats 2000000 in
theorem str_Equal (va vb : Value) (l m : List ByteArray) (w : World) (ha : SlA w 1 va l.length (strs l)) (hb : SlA w 1 vb m.length (strs m)) :
    Calls Tryz.prog 132 #[va, vb] w fun e w' => e = .returned (.bool (decide (l = m))) ∧ ∃ n, w' = w.drewN n := by
  have hmax := ha.max
  have hmax2 := hb.max
  by_cases hl : l.length = m.length
  case neg =>
    have R := Lib.hid (same_lenT hl)
    have d : ((l.length : Int) != (m.length : Int)) = true := by rw [bne_iff_ne]; omega
    obtain ⟨a1, c1, rfl⟩ := ha.form
    obtain ⟨a2, c2, rfl⟩ := hb.form
    clear ha hb hl
    go_enter Tryz.func132, Tryz.ntmps132
    go_wp2
    go_ret
    exact ⟨ret_b R.out.symm, 0, rfl⟩
  have hne : ((l.length : Int) != (m.length : Int)) = false := by rw [hl]; simp
  by_cases h0 : 0 < l.length
  · obtain ⟨b1, o1, c1, rfl, hc1, hm1, _, hx1⟩ := ha.pos h0
    obtain ⟨b2, o2, c2, rfl, hc2, hm2, _, hx2⟩ := hb.pos (by omega)
    have HX1 := Lib.hid hx1
    have HX2 := Lib.hid hx2
    have HL := Lib.hid hl
    clear ha hb hx1 hx2 hl
    go_enter Tryz.func132, Tryz.ntmps132
    go_wp2
    go_loopw [13] (fun i wr => ∃ k n : Nat, k ≤ l.length ∧ i = .int .i64 k ∧ wr = w.drewN n ∧ Hid (l.take k = m.take k)) (fun i _ => l.length - (intOf i).toNat)
    case atStart => exact ⟨0, 0, by omega, rfl, rfl, Lib.hid (by simp)⟩
    case round =>
      obtain ⟨k, n, hk, rfl, rfl, HT⟩ := hrel
      by_cases hlt : k < l.length
      · have hlt2 : k < m.length := by have := HL.out; omega
        have p0 := HX1.out k _ (strs_get hlt)
        have q0 := HX2.out k _ (strs_get hlt2)
        by_cases he : l[k] = m[k]
        · have HN := Lib.hid (take_moreT HT.out hlt hlt2 he)
          have d1 : (!(l[k].toList == m[k].toList)) = false := by rw [beq_str, decide_eq_true he]; rfl
          clear he
          generalize l[k] = x at *
          generalize m[k] = y at *
          go_wp2_with fail
          go_big_quiet (fail)
          go_wp2
          exact ⟨⟨k + 1, n + nq, by omega, by go_num, rfl, HN⟩, by simp [intOf]; omega⟩
        · have R := Lib.hid (same_noT hlt hlt2 he)
          have d1 : (!(l[k].toList == m[k].toList)) = true := by rw [beq_str, decide_eq_false he]; rfl
          clear he
          generalize l[k] = x at *
          generalize m[k] = y at *
          go_wp2_with fail
          go_big_quiet (fail)
          go_wp2
          go_ret
          exact ⟨ret_b R.out.symm, n + nq, by simp [World.drewN, Nat.add_assoc]⟩
      · have R := Lib.hid (same_endT HT.out hlt (by have := HL.out; omega))
        go_wp2
        go_ret
        exact ⟨ret_b R.out.symm, n, rfl⟩
  · have R := Lib.hid (same_endT (l := l) (m := m) (k := 0) (by simp) h0 (by omega))
    obtain ⟨a1, c1, rfl⟩ := ha.form
    obtain ⟨a2, c2, rfl⟩ := hb.form
    have d0 : l.length = 0 := by omega
    have d02 : m.length = 0 := by omega
    clear ha hb h0 hmax hl hmax2
    go_enter Tryz.func132, Tryz.ntmps132
    go_wp2
    go_loopw [13] (fun i wr => i = .int .i64 0 ∧ wr = w) (fun _ _ => 0)
    case atStart => exact ⟨rfl, rfl⟩
    case round =>
      obtain ⟨rfl, rfl⟩ := hrel
      go_wp2
      go_ret
      exact ⟨ret_b R.out.symm, 0, rfl⟩
end Go.Proofs.YtnhkgfgbhedphaaGreatDoor
namespace Go.Proofs.YtnhkgfgbhedphaaGreatDoor
open Go.RowKit Go.Shelf

set_option maxRecDepth 100000 in
set_option maxHeartbeats 2000000 in
theorem ref1_SameQ (va vb : Value) (l m : List ByteArray) (w : World) (ha : SlA w 1 va l.length (strs l)) (hb : SlA w 1 vb m.length (strs m)) :
    Calls Tryz.prog 13 #[va, vb] w fun e w' => e = .returned (.bool (decide (l = m))) ∧ ∃ n, w' = w.drewN n := by
  have hmax := ha.max
  have hmax2 := hb.max
  by_cases hl : l.length = m.length
  case neg =>
    have R := Lib.hid (same_lenT hl)
    have d : ((l.length : Int) != (m.length : Int)) = true := by rw [bne_iff_ne]; omega
    obtain ⟨a1, c1, rfl⟩ := ha.form
    obtain ⟨a2, c2, rfl⟩ := hb.form
    clear ha hb hl
    go_enter Tryz.func13, Tryz.ntmps13
    go_wp2
    go_ret
    exact ⟨ret_b R.out.symm, 0, rfl⟩
  have hne : ((l.length : Int) != (m.length : Int)) = false := by rw [hl]; simp
  by_cases h0 : 0 < l.length
  · obtain ⟨b1, o1, c1, rfl, hc1, hm1, _, hx1⟩ := ha.pos h0
    obtain ⟨b2, o2, c2, rfl, hc2, hm2, _, hx2⟩ := hb.pos (by omega)
    have HX1 := Lib.hid hx1
    have HX2 := Lib.hid hx2
    have HL := Lib.hid hl
    clear ha hb hx1 hx2 hl
    go_enter Tryz.func13, Tryz.ntmps13
    go_wp2
    go_loopw [13] (fun i wr => ∃ k n : Nat, k ≤ l.length ∧ i = .int .i64 k ∧ wr = w.drewN n ∧ Hid (l.take k = m.take k)) (fun i _ => l.length - (intOf i).toNat)
    case atStart => exact ⟨0, 0, by omega, rfl, rfl, Lib.hid (by simp)⟩
    case round =>
      obtain ⟨k, n, hk, rfl, rfl, HT⟩ := hrel
      by_cases hlt : k < l.length
      · have hlt2 : k < m.length := by have := HL.out; omega
        have p0 := HX1.out k _ (strs_get hlt)
        have q0 := HX2.out k _ (strs_get hlt2)
        by_cases he : l[k] = m[k]
        · have HN := Lib.hid (take_moreT HT.out hlt hlt2 he)
          have d1 : (!(l[k].toList == m[k].toList)) = false := by rw [beq_str, decide_eq_true he]; rfl
          clear he
          generalize l[k] = x at *
          generalize m[k] = y at *
          go_wp2_with fail
          go_big_quiet (fail)
          go_wp2
          exact ⟨⟨k + 1, n + nq, by omega, by go_num, rfl, HN⟩, by simp [intOf]; omega⟩
        · have R := Lib.hid (same_noT hlt hlt2 he)
          have d1 : (!(l[k].toList == m[k].toList)) = true := by rw [beq_str, decide_eq_false he]; rfl
          clear he
          generalize l[k] = x at *
          generalize m[k] = y at *
          go_wp2_with fail
          go_big_quiet (fail)
          go_wp2
          go_ret
          exact ⟨ret_b R.out.symm, n + nq, by simp [World.drewN, Nat.add_assoc]⟩
      · have R := Lib.hid (same_endT HT.out hlt (by have := HL.out; omega))
        go_wp2
        go_ret
        exact ⟨ret_b R.out.symm, n, rfl⟩
  · have R := Lib.hid (same_endT (l := l) (m := m) (k := 0) (by simp) h0 (by omega))
    obtain ⟨a1, c1, rfl⟩ := ha.form
    obtain ⟨a2, c2, rfl⟩ := hb.form
    have d0 : l.length = 0 := by omega
    have d02 : m.length = 0 := by omega
    clear ha hb h0 hmax hl hmax2
    go_enter Tryz.func13, Tryz.ntmps13
    go_wp2
    go_loopw [13] (fun i wr => i = .int .i64 0 ∧ wr = w) (fun _ _ => 0)
    case atStart => exact ⟨rfl, rfl⟩
    case round =>
      obtain ⟨rfl, rfl⟩ := hrel
      go_wp2
      go_ret
      exact ⟨ret_b R.out.symm, 0, rfl⟩
theorem ref1_SameQB (va vb : Value) (l m : List ByteArray) (w : World) (ha : SlA w 1 va l.length (strs l)) (hb : SlA w 1 vb m.length (strs m)) :
    Calls Tryz.prog 13 #[va, vb] w fun e w' => e = .returned (.bool (decide (l = m))) ∧ Below w.heap.size w w' :=
  (ref1_SameQ va vb l m w ha hb).mono fun e w' ⟨he, n, hn⟩ => ⟨he, by rw [hn]; exact below_of_drewN n⟩
theorem str_EqualQB (va vb : Value) (l m : List ByteArray) (w : World) (ha : SlA w 1 va l.length (strs l)) (hb : SlA w 1 vb m.length (strs m)) :
    Calls Tryz.prog 132 #[va, vb] w fun e w' => e = .returned (.bool (decide (l = m))) ∧ Below w.heap.size w w' :=
  (str_Equal va vb l m w ha hb).mono fun e w' ⟨he, n, hn⟩ => ⟨he, by rw [hn]; exact below_of_drewN n⟩
def sameQ (x y : Qd) : Bool := if x.k = y.k then if x.a = y.a then if x.b = y.b then decide (x.us = y.us) else false else false else false
theorem sameQ_iff {x y : Qd} : sameQ x y = true ↔ x = y := by
  obtain ⟨k, a, b, us⟩ := x
  obtain ⟨k', a', b', us'⟩ := y
  unfold sameQ
  simp only [Qd.mk.injEq]
  constructor
  · intro h
    split at h
    · split at h
      · split at h
        · exact ⟨by assumption, by assumption, by assumption, of_decide_eq_true h⟩
        · exact absurd h (by decide)
      · exact absurd h (by decide)
    · exact absurd h (by decide)
  · rintro ⟨rfl, rfl, rfl, rfl⟩
    simp
set_option maxRecDepth 100000 in
set_option maxHeartbeats 2000000 in
theorem ref4_SameQ (x y : Qd) (va vb : Value) (w : World) (ha : SlA w 1 va x.us.length (strs x.us)) (hb : SlA w 1 vb y.us.length (strs y.us)) :
    Calls Tryz.prog 114 #[qdv x va, qdv y vb] w fun e w' => e = .returned (.bool (sameQ x y)) ∧ Below w.heap.size w w' := by
  have E := Lib.hid (show sameQ x y = (if x.k = y.k then if x.a = y.a then if x.b = y.b then decide (x.us = y.us) else false else false else false) from rfl)
  have hEq := role_eql
  have SS := Lib.hid (fun W (h : Below w.heap.size w W) => ref1_SameQB va vb x.us y.us W (ha.below h) (hb.below h))
  generalize sameQ x y = r at *
  obtain ⟨k, ⟨x1, x2⟩, ⟨x3, x4⟩, us⟩ := x
  obtain ⟨k', ⟨y1, y2⟩, ⟨y3, y4⟩, us'⟩ := y
  dsimp only at E SS ha hb
  obtain ⟨wo, wc, rfl⟩ := ha.form
  obtain ⟨uo, uc, rfl⟩ := hb.form
  have HT := Lib.hid (TwoAt.new w #[.int .i64 k, .string x1, .string x2, .string x3, .string x4, .slice wo us.length wc] #[.int .i64 k', .string y1, .string y2, .string y3, .string y4, .slice uo us'.length uc] 66 66)
  have SS := Lib.hid (SS.out _ HT.out.low)
  clear ha hb
  by_cases h1 : k = k'
  case neg =>
    have R := Lib.hid (show r = false by rw [E.out, if_neg h1])
    have d1 : (k == k') = false := by simpa using h1
    clear h1 E
    go_enter Tryz.func114, Tryz.ntmps114
    go_wp2
    go_ret
    exact ⟨ret_b R.out.symm, HT.out.low⟩
  rw [if_pos h1] at E
  subst h1
  by_cases h2 : (⟨x1, x2⟩ : Rl) = ⟨y1, y2⟩
  case neg =>
    have R := Lib.hid (show r = false by rw [E.out, if_neg h2])
    have d1 : eqRl ⟨x1, x2⟩ ⟨y1, y2⟩ = false := decide_eq_false h2
    clear h2 E
    go_enter Tryz.func114, Tryz.ntmps114
    go_wp2
    go_ret
    exact ⟨ret_b R.out.symm, HT.out.low⟩
  rw [if_pos h2] at E
  have d1 : eqRl ⟨x1, x2⟩ ⟨y1, y2⟩ = true := decide_eq_true h2
  clear h2
  by_cases h3 : (⟨x3, x4⟩ : Rl) = ⟨y3, y4⟩
  case neg =>
    have R := Lib.hid (show r = false by rw [E.out, if_neg h3])
    have d2 : eqRl ⟨x3, x4⟩ ⟨y3, y4⟩ = false := decide_eq_false h3
    clear h3 E
    go_enter Tryz.func114, Tryz.ntmps114
    go_wp2
    go_ret
    exact ⟨ret_b R.out.symm, HT.out.low⟩
  rw [if_pos h3] at E
  have d2 : eqRl ⟨x3, x4⟩ ⟨y3, y4⟩ = true := decide_eq_true h3
  clear h3
  generalize decide (us = us') = d at *
  have R := Lib.hid E.out
  clear E
  go_enter Tryz.func114, Tryz.ntmps114
  go_wp2_with fail
  refine SS.out.mono ?_
  rintro e w1 ⟨rfl, hb⟩
  have HT := Lib.hid (HT.out.later hb)
  clear hb SS
  go_wp2
  go_ret
  exact ⟨ret_b R.out.symm, HT.out.low⟩
set_option maxRecDepth 100000 in
set_option maxHeartbeats 2000000 in
theorem query_SameQ (x y : Qd) (va vb : Value) (w : World) (ha : SlA w 1 va x.us.length (strs x.us)) (hb : SlA w 1 vb y.us.length (strs y.us)) :
    Calls Tryz.prog 84 #[qdv x va, qdv y vb] w fun e w' => e = .returned (.bool (sameQ x y)) ∧ Below w.heap.size w w' := by
  have E := Lib.hid (show sameQ x y = (if x.k = y.k then if x.a = y.a then if x.b = y.b then decide (x.us = y.us) else false else false else false) from rfl)
  have hEq := role_eql
  have SS := Lib.hid (fun W (h : Below w.heap.size w W) => str_EqualQB va vb x.us y.us W (ha.below h) (hb.below h))
  generalize sameQ x y = r at *
  obtain ⟨k, ⟨x1, x2⟩, ⟨x3, x4⟩, us⟩ := x
  obtain ⟨k', ⟨y1, y2⟩, ⟨y3, y4⟩, us'⟩ := y
  dsimp only at E SS ha hb
  obtain ⟨wo, wc, rfl⟩ := ha.form
  obtain ⟨uo, uc, rfl⟩ := hb.form
  have HT := Lib.hid (TwoAt.new w #[.int .i64 k, .string x1, .string x2, .string x3, .string x4, .slice wo us.length wc] #[.int .i64 k', .string y1, .string y2, .string y3, .string y4, .slice uo us'.length uc] 66 66)
  have SS := Lib.hid (SS.out _ HT.out.low)
  clear ha hb
  by_cases h1 : k = k'
  case neg =>
    have R := Lib.hid (show r = false by rw [E.out, if_neg h1])
    have d1 : (k == k') = false := by simpa using h1
    clear h1 E
    go_enter Tryz.func84, Tryz.ntmps84
    go_wp2
    go_ret
    exact ⟨ret_b R.out.symm, HT.out.low⟩
  rw [if_pos h1] at E
  subst h1
  by_cases h2 : (⟨x1, x2⟩ : Rl) = ⟨y1, y2⟩
  case neg =>
    have R := Lib.hid (show r = false by rw [E.out, if_neg h2])
    have d1 : eqRl ⟨x1, x2⟩ ⟨y1, y2⟩ = false := decide_eq_false h2
    clear h2 E
    go_enter Tryz.func84, Tryz.ntmps84
    go_wp2
    go_ret
    exact ⟨ret_b R.out.symm, HT.out.low⟩
  rw [if_pos h2] at E
  have d1 : eqRl ⟨x1, x2⟩ ⟨y1, y2⟩ = true := decide_eq_true h2
  clear h2
  by_cases h3 : (⟨x3, x4⟩ : Rl) = ⟨y3, y4⟩
  case neg =>
    have R := Lib.hid (show r = false by rw [E.out, if_neg h3])
    have d2 : eqRl ⟨x3, x4⟩ ⟨y3, y4⟩ = false := decide_eq_false h3
    clear h3 E
    go_enter Tryz.func84, Tryz.ntmps84
    go_wp2
    go_ret
    exact ⟨ret_b R.out.symm, HT.out.low⟩
  rw [if_pos h3] at E
  have d2 : eqRl ⟨x3, x4⟩ ⟨y3, y4⟩ = true := decide_eq_true h3
  clear h3
  generalize decide (us = us') = d at *
  have R := Lib.hid E.out
  clear E
  go_enter Tryz.func84, Tryz.ntmps84
  go_wp2_with fail
  refine SS.out.mono ?_
  rintro e w1 ⟨rfl, hb⟩
  have HT := Lib.hid (HT.out.later hb)
  clear hb SS
  go_wp2
  go_ret
  exact ⟨ret_b R.out.symm, HT.out.low⟩
end Go.Proofs.YtnhkgfgbhedphaaGreatDoor
namespace Go.Proofs.YtnhkgfgbhedphaaGreatDoor
open Go.RowKit Go.Shelf

instance : DecidableEq Qd := fun x y => decidable_of_iff (sameQ x y = true) sameQ_iff
theorem take_same {α : Type} {l m : List α} {k : Nat} (h : l.take k = m.take k) (h1 : k < l.length) (h2 : k < m.length) (he : l[k] = m[k]) : l.take (k + 1) = m.take (k + 1) := by
  rw [List.take_succ_eq_append_getElem h1, List.take_succ_eq_append_getElem h2, h, he]
set_option maxRecDepth 100000 in
set_option maxHeartbeats 4000000 in
theorem ref4_SameAllQ (va vb : Value) (xs ys : List (Qd × Value)) (w : World) (ha : SlA w 6 va xs.length ((xs.map qz).flatMap Qv.cells)) (hb : SlA w 6 vb ys.length ((ys.map qz).flatMap Qv.cells)) (hx : ∀ z ∈ xs, SlA w 1 z.2 z.1.us.length (strs z.1.us)) (hy : ∀ z ∈ ys, SlA w 1 z.2 z.1.us.length (strs z.1.us)) :
    Calls Tryz.prog 61 #[va, vb] w fun e w' => e = .returned (.bool (decide (xs.map (·.1) = ys.map (·.1)))) ∧ Below w.heap.size w w' := by
  have hm1 := ha.max
  have hm2 := hb.max
  have HA := Lib.hid ha
  have HB := Lib.hid hb
  have HX := Lib.hid hx
  have HY := Lib.hid hy
  obtain ⟨ao, ac, rfl⟩ := ha.form
  obtain ⟨bo, bc, rfl⟩ := hb.form
  have R1 := Lib.hid (fun (h : xs.map (·.1) = ys.map (·.1)) => decide_eq_true h)
  have R0 := Lib.hid (fun (h : ¬ xs.map (·.1) = ys.map (·.1)) => decide_eq_false h)
  generalize decide (xs.map (·.1) = ys.map (·.1)) = res at *
  clear ha hb hx hy
  by_cases hl : xs.length = ys.length
  · have hne : ((xs.length : Int) != (ys.length : Int)) = false := by rw [hl]; simp
    have HL := Lib.hid hl
    clear hl
    go_enter Tryz.func61, Tryz.ntmps61
    go_wp2_with fail
    go_loopw [13] (fun i wr => ∃ k : Nat, k ≤ xs.length ∧ i = .int .i64 k ∧ Hid ((xs.map (·.1)).take k = (ys.map (·.1)).take k) ∧ Hid (Below w.heap.size w wr)) (fun i _ => xs.length - (intOf i).toNat)
    case atStart => exact ⟨0, by omega, rfl, Lib.hid rfl, Lib.hid (Below.refl _ _)⟩
    case round =>
      obtain ⟨k, hk, rfl, HK, HW⟩ := hrel
      by_cases hlt : k < xs.length
      · have hlt2 : k < ys.length := by rw [← HL.out]; exact hlt
        have hlm : k < (xs.map qz).length := by simpa using hlt
        have hlm2 : k < (ys.map qz).length := by simpa using hlt2
        obtain ⟨b1, o1, c1, he1, hc1, hm1', hb1, hx1⟩ := (HA.out.below HW.out).pos (by omega)
        simp only [Value.slice.injEq, true_and] at he1
        obtain ⟨rfl, rfl⟩ := he1
        obtain ⟨b2, o2, c2, he2, hc2, hm2', hb2, hx2⟩ := (HB.out.below HW.out).pos (by omega)
        simp only [Value.slice.injEq, true_and] at he2
        obtain ⟨rfl, rfl⟩ := he2
        obtain ⟨p0, p1, p2, p3, p4, p5⟩ := q_cell (w := wr) (l := xs.map qz) hx1 k hlm
        obtain ⟨q0, q1, q2, q3, q4, q5⟩ := q_cell (w := wr) (l := ys.map qz) hx2 k hlm2
        have e1 : (xs.map qz)[k] = qz xs[k] := by simp
        have e2 : (ys.map qz)[k] = qz ys[k] := by simp
        rw [e1] at p0 p1 p2 p3 p4 p5
        rw [e2] at q0 q1 q2 q3 q4 q5
        have hu1 := (HX.out _ (List.getElem_mem hlt)).below HW.out
        have hu2 := (HY.out _ (List.getElem_mem hlt2)).below HW.out
        have SQ := Lib.hid (fun W (hb : Below wr.heap.size wr W) => ref4_SameQ xs[k].1 ys[k].1 xs[k].2 ys[k].2 W (hu1.below hb) (hu2.below hb))
        have HN := Lib.hid (fun (h : sameQ xs[k].1 ys[k].1 = true) => take_same HK.out (by simpa using hlt) (by simpa using hlt2) (by simpa using sameQ_iff.1 h))
        have HF := Lib.hid (fun (h : sameQ xs[k].1 ys[k].1 = false) => show res = false by
          refine R0.out (fun e => ?_)
          have h1 : (xs.map (·.1))[k]'(by simpa using hlt) = (ys.map (·.1))[k]'(by simpa using hlt2) := by simp only [e]
          simp only [List.getElem_map] at h1
          rw [sameQ_iff.2 h1] at h
          cases h)
        generalize sameQ xs[k].1 ys[k].1 = sb at *
        generalize xs[k] = X at *
        generalize ys[k] = Y at *
        obtain ⟨⟨xk, ⟨x1, x2⟩, ⟨x3, x4⟩, xs5⟩, xv⟩ := X
        obtain ⟨⟨yk, ⟨y1, y2⟩, ⟨y3, y4⟩, ys5⟩, yv⟩ := Y
        dsimp only [qz] at hu1 hu2 p0 p1 p2 p3 p4 p5 q0 q1 q2 q3 q4 q5 SQ
        obtain ⟨xo, xc, rfl⟩ := hu1.form
        obtain ⟨yo, yc, rfl⟩ := hu2.form
        have hr1 : b1 < wr.heap.size := hb1
        have hr2 : b2 < wr.heap.size := hb2
        have HS := Lib.hid (fun (W : World) (hb : Below wr.heap.size wr W) => show W.cell? ⟨b1, o1 + k * 6, none⟩ = some (.int .i64 xk) ∧ W.cell? ⟨b1, o1 + k * 6 + 1, none⟩ = some (.string x1) ∧ W.cell? ⟨b1, o1 + k * 6 + 2, none⟩ = some (.string x2) ∧ W.cell? ⟨b1, o1 + k * 6 + 3, none⟩ = some (.string x3) ∧ W.cell? ⟨b1, o1 + k * 6 + 4, none⟩ = some (.string x4) ∧ W.cell? ⟨b1, o1 + k * 6 + 5, none⟩ = some (.slice xo xs5.length xc) ∧ W.cell? ⟨b2, o2 + k * 6, none⟩ = some (.int .i64 yk) ∧ W.cell? ⟨b2, o2 + k * 6 + 1, none⟩ = some (.string y1) ∧ W.cell? ⟨b2, o2 + k * 6 + 2, none⟩ = some (.string y2) ∧ W.cell? ⟨b2, o2 + k * 6 + 3, none⟩ = some (.string y3) ∧ W.cell? ⟨b2, o2 + k * 6 + 4, none⟩ = some (.string y4) ∧ W.cell? ⟨b2, o2 + k * 6 + 5, none⟩ = some (.slice yo ys5.length yc) from ⟨(hb.cell (p := ⟨b1, _, none⟩) hr1).trans p0, (hb.cell (p := ⟨b1, _, none⟩) hr1).trans p1, (hb.cell (p := ⟨b1, _, none⟩) hr1).trans p2, (hb.cell (p := ⟨b1, _, none⟩) hr1).trans p3, (hb.cell (p := ⟨b1, _, none⟩) hr1).trans p4, (hb.cell (p := ⟨b1, _, none⟩) hr1).trans p5, (hb.cell (p := ⟨b2, _, none⟩) hr2).trans q0, (hb.cell (p := ⟨b2, _, none⟩) hr2).trans q1, (hb.cell (p := ⟨b2, _, none⟩) hr2).trans q2, (hb.cell (p := ⟨b2, _, none⟩) hr2).trans q3, (hb.cell (p := ⟨b2, _, none⟩) hr2).trans q4, (hb.cell (p := ⟨b2, _, none⟩) hr2).trans q5⟩)
        clear hx1 hx2 hu1 hu2 p0 p1 p2 p3 p4 p5 q0 q1 q2 q3 q4 q5 e1 e2 hlm hlm2
        go_wp2_with fail
        refine wp_region_held_drew (S := (fun W => W.cell? ⟨b1, o1 + k * 6, none⟩ = some (.int .i64 xk) ∧ W.cell? ⟨b1, o1 + k * 6 + 1, none⟩ = some (.string x1) ∧ W.cell? ⟨b1, o1 + k * 6 + 2, none⟩ = some (.string x2) ∧ W.cell? ⟨b1, o1 + k * 6 + 3, none⟩ = some (.string x3) ∧ W.cell? ⟨b1, o1 + k * 6 + 4, none⟩ = some (.string x4) ∧ W.cell? ⟨b1, o1 + k * 6 + 5, none⟩ = some (.slice xo xs5.length xc) ∧ W.cell? ⟨b2, o2 + k * 6, none⟩ = some (.int .i64 yk) ∧ W.cell? ⟨b2, o2 + k * 6 + 1, none⟩ = some (.string y1) ∧ W.cell? ⟨b2, o2 + k * 6 + 2, none⟩ = some (.string y2) ∧ W.cell? ⟨b2, o2 + k * 6 + 3, none⟩ = some (.string y3) ∧ W.cell? ⟨b2, o2 + k * 6 + 4, none⟩ = some (.string y4) ∧ W.cell? ⟨b2, o2 + k * 6 + 5, none⟩ = some (.slice yo ys5.length yc))) (by kernel_rfl) (HS.out _ (below_drew (Below.refl _ _))) (fun hHeld => ?_)
        (refine hyes 0 ?_); (refine hyes 1 ?_); (refine hyes 2 ?_); (refine hyes 3 ?_); (refine hyes 4 ?_); (refine hyes 5 ?_); (refine hyes 6 ?_); (refine hyes 7 ?_); (try simp only [Act.put, List.setIfInBounds_toArray, List.set])
        (refine held_call 8 rfl (by kernel_rfl) (fun K hK => ?_); go_simp)
        go_at_call 114; refine (SQ.out _ (below_drew (Below.refl _ _))).mono ?_; rintro e w2 ⟨rfl, hb2'⟩
        have hb3 := (below_drew (Below.refl wr.heap.size wr)).trans (hb2'.mono (below_drew (Below.refl wr.heap.size wr)).size)
        have HW2 := Lib.hid (HW.out.trans (hb3.mono HW.out.size))
        have HS2 := HS.out _ hb3
        clear hb2' hb3
        (refine hK.out _ _ (HS2) (fun hHeld => ?_); clear hK K; (try simp only [Act.put, List.setIfInBounds_toArray, List.set]))
        clear HS2
        (refine hyes 9 ?_); (try simp only [Act.put, List.setIfInBounds_toArray, List.set])
        refine wpAnyH_done (by kernel_rfl) ?_ _
        cases sb with
        | true =>
          have HN2 := Lib.hid (HN.out rfl)
          go_wp2
          exact ⟨⟨k + 1, by omega, by go_num, HN2, HW2⟩, by simp [intOf]; omega⟩
        | false =>
          have R := Lib.hid (HF.out rfl)
          go_wp2
          go_ret
          exact ⟨ret_b R.out.symm, HW2.out⟩
      · have R := Lib.hid (show res = true by
          have h := HK.out
          rw [List.take_of_length_le (by simp; omega), List.take_of_length_le (by have := HL.out; simp; omega)] at h
          exact R1.out h)
        go_wp2
        go_ret
        exact ⟨ret_b R.out.symm, HW.out⟩
  · have hne : ((xs.length : Int) != (ys.length : Int)) = true := by simp; omega
    have R := Lib.hid (show res = false by
      refine R0.out (fun e => hl ?_)
      have h := congrArg List.length e
      simpa using h)
    clear hl
    go_enter Tryz.func61, Tryz.ntmps61
    go_wp2
    go_ret
    exact ⟨ret_b R.out.symm, Below.refl _ _⟩
end Go.Proofs.YtnhkgfgbhedphaaGreatDoor
