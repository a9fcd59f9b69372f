/- Light of queries and policies, with the lengths of the queries' roles and principals (turned from LightS by gen_lightu.py). A policy that lies in a world, as what it is. policy.Print and policy.Right of a policy that may be. The text that PolicyTurns makes, byte by byte, in plain Lean. Whether two rows of texts, two queries, two policies are the same: of the same ones. slices.Equal at rows of texts. crupperref01.Same at any two rows; crupperref04.Same, query.Same at any two queries (printed by gen_qsame.py). Whether two rows of queries, two policies are the same: to the letter. slices.EqualFunc at queries; policy.Same, crupperref05.Same (printed by gen_polsame.py). The statement PolicyTurns: the walk of the law (printed by gen_law05t.py). Roles and statements among a law's arguments: opened to data, and read again in a later world. Rows of statements among a law's arguments: opened. Policies among a law's arguments: opened. -/
import Derived.Test.YtnhkgfgbhedphaaGreatDoorPart14
import Derived.Test.YtnhkgfgbhedphaaGreatDoorPart10
import Derived.Test.YtnhkgfgbhedphaaGreatDoorPart5
import Derived.Test.YtnhkgfgbhedphaaGreatDoorPart8
import Derived.Test.YtnhkgfgbhedphaaGreatDoorPart11
import Derived.Test.YtnhkgfgbhedphaaGreatDoorPart13
import Derived.Laws.IdiomStrings
import Derived.ProofKit
import Derived.OpenShut
import Derived.ChangeMaps5
import Derived.Deep.Strs
import Derived.Test.YtnhkgfgbhedphaaGreatDoorPart3
import Derived.Deep.Slices
namespace Go.Proofs.YtnhkgfgbhedphaaGreatDoor
open Go.RowKit Go.Shelf

def Qv.okU (q : Qv) (w : World) : Prop := q.okS w ∧ ∃ ss : List ByteArray, SlA w 1 q.w ss.length (strs ss) ∧ ∀ s ∈ ss, s.size ≤ 40
def LightQU (q : Qv) (w : World) (e : Ending) : Prop := ∃ b, e = .returned (.bool b) ∧ (b = true → q.okU w)
theorem okU_back {q : Qv} {w W : World} (h : q.ok w) (hb : Below w.heap.size w W) (h' : q.okU W) : q.okU w := by
  refine ⟨okS_back h hb h'.1, ?_⟩
  obtain ⟨_, _, ss, hs, _⟩ := h
  obtain ⟨_, ts, ht, hle⟩ := h'
  have e : ts = ss := SlA.same ht (hs.below hb)
  subst e
  exact ⟨ts, hs, hle⟩
def LightX (w : World) (l : List St) (g h : List Rl) (qs : List Qv) (e : Ending) : Prop := ∃ b, e = .returned (.bool b) ∧ (b = true → (l.length ≤ 30 ∧ g.length ≤ 30 ∧ h.length ≤ 30 ∧ qs.length ≤ 30 ∧ allLe l 40 ∧ ∀ q ∈ qs, q.okU w) ∧ ∀ x ∈ g ++ h, x.le 40)
set_option maxRecDepth 100000 in
set_option maxHeartbeats 1000000 in
theorem law4_LightU (q : Qv) (w : World) (hq : q.ok w) : Calls Tryz.prog 43 #[qv q] w fun e w' => LightQU q w e ∧ Below w.heap.size w w' := by
  obtain ⟨ha, hb, ss, hs, hl⟩ := hq
  obtain ⟨k, ⟨x1, x2⟩, ⟨x3, x4⟩, wv⟩ := q
  have HS := Lib.hid (fun W h => law1_LightT wv ss W h hl)
  have HQ := Lib.hid (fun (h : ss.length ≤ 40 ∧ ∀ s ∈ ss, s.size ≤ 40) (h4 : [x1, x2, x3, x4].length ≤ 40 ∧ ∀ x ∈ [x1, x2, x3, x4], x.size ≤ 40) => show (⟨k, ⟨x1, x2⟩, ⟨x3, x4⟩, wv⟩ : Qv).okU w from ⟨⟨⟨ha, hb, ss, hs, h.1, hl⟩, ⟨h4.2 _ (by simp), h4.2 _ (by simp)⟩, ⟨h4.2 _ (by simp), h4.2 _ (by simp)⟩⟩, ss, hs, h.2⟩)
  have HW := Lib.hid hs
  have H4 := Lib.hid (fun W h => law1_LightT (.slice (some ⟨w.heap.size + 1, 0, none⟩) 4 4) [x1, x2, x3, x4] W h (by
    intro s hs; simp at hs; rcases hs with rfl | rfl | rfl | rfl
    · exact ha.1
    · exact ha.2
    · exact hb.1
    · exact hb.2))
  obtain ⟨wo, wc, rfl⟩ := hs.form
  clear ha hb hl hs
  have HB := Lib.hid ((Below.refl _ w).alloc (Nat.le_refl _) (.cells #[.int .i64 k, .string x1, .string x2, .string x3, .string x4, .slice wo ss.length wc] 66))
  have HB2 := Lib.hid (HB.out.alloc HB.out.size (.cells #[.string x1, .string x2, .string x3, .string x4] 9))
  have S4 := Lib.hid (Sl.new (w.alloc (.cells #[.int .i64 k, .string x1, .string x2, .string x3, .string x4, .slice wo ss.length wc] 66)) [.string x1, .string x2, .string x3, .string x4] 9 1 4 (w.heap.size + 1) (by simp) rfl (by simp [maxLen]))
  go_enter Tryz.func43, Tryz.ntmps43
  go_wp2_with fail
  refine (HS.out _ (HW.out.below HB.out)).mono ?_
  rintro e w1 ⟨⟨b1, rfl, hb1⟩, rfl⟩
  have HB1 := Lib.hid hb1
  clear hb1
  cases b1 with
  | false =>
    go_wp2
    go_ret
    exact ⟨⟨false, rfl, fun h => by cases h⟩, HB.out⟩
  | true =>
    go_wp2_with fail
    refine (H4.out _ S4.out.a).mono ?_
    rintro e w1 ⟨⟨b2, rfl, hb2⟩, rfl⟩
    have HB4 := Lib.hid hb2
    clear hb2
    go_wp2
    go_ret
    exact ⟨⟨b2, rfl, fun h => HQ.out (HB1.out (by first | rfl | trivial)) (HB4.out h)⟩, HB2.out⟩
set_option maxRecDepth 100000 in
set_option maxHeartbeats 8000000 in
theorem law5_LightU (v0 v1 v2 v3 : Value) (l : List St) (g h : List Rl) (qs : List Qv) (w : World) (hp : PolAt w v0 v1 v2 v3 l g h qs) :
    Calls Tryz.prog 9 #[pv v0 v1 v2 v3] w fun e w' => LightX w l g h qs e ∧ Below w.heap.size w w' := by
  have HP := Lib.hid hp
  have hm0 := hp.rs.max
  have hm1 := hp.rg.max
  have hm2 := hp.rh.max
  have hm3 := hp.rq.max
  obtain ⟨a0, c0, rfl⟩ := hp.rs.form
  obtain ⟨a1, c1, rfl⟩ := hp.rg.form
  obtain ⟨a2, c2, rfl⟩ := hp.rh.form
  obtain ⟨a3, c3, rfl⟩ := hp.rq.form
  have HL := Lib.hid (fun k (hk : k < l.length) W => law3_Light l[k] W (hp.ls _ (List.getElem_mem hk)))
  have T0 := Lib.hid (show OneAt w #[.slice a0 l.length c0, .slice a1 g.length c1, .slice a2 h.length c2, .slice a3 qs.length c3] (w.alloc (.cells #[.slice a0 l.length c0, .slice a1 g.length c1, .slice a2 h.length c2, .slice a3 qs.length c3] 26)) from ⟨Blk.new w _ _, (Below.refl _ _).alloc (Nat.le_refl _) _⟩)
  clear hp
  go_enter Tryz.func9, Tryz.ntmps9
  by_cases t0 : 30 < l.length
  · have d0 : decide ((30 : Int) < (l.length : Int)) = true := by (rw [decide_eq_true_iff]; omega)
    go_wp2
    go_ret
    exact ⟨⟨false, rfl, (fun h => by cases h)⟩, T0.out.low⟩
  have d0 : decide ((30 : Int) < (l.length : Int)) = false := by (rw [decide_eq_false_iff_not]; omega)
  by_cases t1 : 30 < g.length
  · have d1 : decide ((30 : Int) < (g.length : Int)) = true := by (rw [decide_eq_true_iff]; omega)
    go_wp2
    go_ret
    exact ⟨⟨false, rfl, (fun h => by cases h)⟩, T0.out.low⟩
  have d1 : decide ((30 : Int) < (g.length : Int)) = false := by (rw [decide_eq_false_iff_not]; omega)
  by_cases t2 : 30 < h.length
  · have d2 : decide ((30 : Int) < (h.length : Int)) = true := by (rw [decide_eq_true_iff]; omega)
    go_wp2
    go_ret
    exact ⟨⟨false, rfl, (fun h => by cases h)⟩, T0.out.low⟩
  have d2 : decide ((30 : Int) < (h.length : Int)) = false := by (rw [decide_eq_false_iff_not]; omega)
  by_cases t3 : 30 < qs.length
  · have d3 : decide ((30 : Int) < (qs.length : Int)) = true := by (rw [decide_eq_true_iff]; omega)
    go_wp2
    go_ret
    exact ⟨⟨false, rfl, (fun h => by cases h)⟩, T0.out.low⟩
  have d3 : decide ((30 : Int) < (qs.length : Int)) = false := by (rw [decide_eq_false_iff_not]; omega)
  go_wp2_with fail
  clear d0 d1 d2 d3
  go_loopw [34] (fun i wr => ∃ k : Nat, k ≤ l.length ∧ i = .int .i64 k ∧ Hid (OneAt w #[.slice a0 l.length c0, .slice a1 g.length c1, .slice a2 h.length c2, .slice a3 qs.length c3] wr) ∧ Hid (∀ j (hj : j < l.length), j < k → l[j].le 40)) (fun i _ => l.length - (intOf i).toNat)
  case atStart => exact ⟨0, by omega, rfl, T0, Lib.hid (fun _ _ h => absurd h (by omega))⟩
  case round =>
    obtain ⟨k, hk, rfl, TR, HJ⟩ := hrel
    by_cases hlt : k < l.length
    · obtain ⟨b1, o1, e1, he1, hc1, hm1', hb1, hx1⟩ := HP.out.rs.pos (by omega)
      simp only [Value.slice.injEq, true_and] at he1
      obtain ⟨rfl, rfl⟩ := he1
      obtain ⟨p0, p1, p2, p3, p4, p5, p6, p7, p8⟩ := st_cell (w := wr) (fun j u hu => (TR.out.low.cell (p := ⟨b1, o1 + j, none⟩) hb1).trans (hx1 j u hu)) k hlt
      have hbr : b1 < wr.heap.size := Nat.lt_of_lt_of_le hb1 TR.out.low.size
      have HLk := Lib.hid (fun W => HL.out k hlt W)
      clear hx1
      go_wp2_with fail
      refine (HLk.out _).mono ?_
      rintro e w2 ⟨b, rfl, hle, hb2⟩
      have HLE := Lib.hid hle
      have T2 := Lib.hid ((TR.out.alloc _).later hb2)
      clear hle hb2
      cases b with
      | false =>
        go_wp2
        go_ret
        exact ⟨⟨false, rfl, (fun h => by cases h)⟩, T2.out.low⟩
      | true =>
        have HJ2 : Hid (∀ j (hj : j < l.length), j < k + 1 → l[j].le 40) := Lib.hid (fun j hj hjk => by
          by_cases h : j < k
          · exact HJ.out j hj h
          · obtain rfl : j = k := by omega
            exact HLE.out (by first | rfl | trivial))
        go_wp2
        exact ⟨⟨k + 1, by omega, by go_num, T2, HJ2⟩, by simp [intOf]; omega⟩
    · have HJ3 := Lib.hid (show allLe l 40 from fun x hx => by
        obtain ⟨j, hj, rfl⟩ := List.getElem_of_mem hx
        exact HJ.out j hj (by omega))
      obtain ⟨ca, fa, za⟩ := TR.out.a
      clear HJ HL
      go_wp2_with fail
      go_loopw [45] (fun i wr => ∃ k : Nat, k ≤ qs.length ∧ i = .int .i64 k ∧ Hid (OneAt w #[.slice a0 l.length c0, .slice a1 g.length c1, .slice a2 h.length c2, .slice a3 qs.length c3] wr) ∧ Hid (∀ j (hj : j < qs.length), j < k → qs[j].okU w)) (fun i _ => qs.length - (intOf i).toNat)
      case atStart => exact ⟨0, by omega, rfl, TR, Lib.hid (fun _ _ h => absurd h (by omega))⟩
      case round =>
        clear TR ca fa za
        obtain ⟨k, hk, rfl, TR, HQJ⟩ := hrel
        by_cases hlt : k < qs.length
        · obtain ⟨b1, o1, e1, he1, hc1, hm1', hb1, hx1⟩ := HP.out.rq.pos (by omega)
          simp only [Value.slice.injEq, true_and] at he1
          obtain ⟨rfl, rfl⟩ := he1
          obtain ⟨p0, p1, p2, p3, p4, p5⟩ := q_cell (w := wr) (fun j u hu => (TR.out.low.cell (p := ⟨b1, o1 + j, none⟩) hb1).trans (hx1 j u hu)) k hlt
          have hbr : b1 < wr.heap.size := Nat.lt_of_lt_of_le hb1 TR.out.low.size
          have hqo := HP.out.lq _ (List.getElem_mem hlt)
          have QL := Lib.hid (fun W (hb : Below w.heap.size w W) => law4_LightU qs[k] W (hqo.below hb))
          have QB := Lib.hid (fun (W : World) (hb : Below w.heap.size w W) (h : qs[k].okU W) => okU_back hqo hb h)
          have HQ2 : Hid (qs[k].okU w → ∀ j (hj : j < qs.length), j < k + 1 → qs[j].okU w) := Lib.hid (fun hpk j hj hjk => by
            by_cases h : j < k
            · exact HQJ.out j hj h
            · obtain rfl : j = k := by omega
              exact hpk)
          obtain ⟨wo, wc, hw5⟩ : ∃ a c, qs[k].w = .slice a ((hqo.2.2).choose).length c := ((hqo.2.2).choose_spec.1).form
          generalize (hqo.2.2).choose.length = nw at hw5
          have hek : qs[k] = ⟨qs[k].k, ⟨qs[k].a.o, qs[k].a.n⟩, ⟨qs[k].b.o, qs[k].b.n⟩, qs[k].w⟩ := rfl
          clear hx1 hqo
          generalize qs[k] = x at *
          obtain ⟨xk, ⟨x1, x2⟩, ⟨x3, x4⟩, xw⟩ := x
          dsimp only at hw5
          subst hw5
          clear hek
          have T2 := Lib.hid (TR.out.alloc (.cells #[.int .i64 xk, .string x1, .string x2, .string x3, .string x4, .slice wo nw wc] 66))
          go_wp2_with fail
          refine (QL.out _ T2.out.low).mono ?_
          rintro e w2 ⟨⟨b, rfl, hbq⟩, hb2⟩
          have T3 := Lib.hid (T2.out.later hb2)
          have HBQ := Lib.hid (fun h => HQ2.out (QB.out _ T2.out.low (hbq h)))
          clear hb2 hbq
          cases b with
          | false =>
            go_wp2
            go_ret
            exact ⟨⟨false, rfl, (fun h => by cases h)⟩, T3.out.low⟩
          | true =>
            go_wp2
            exact ⟨⟨k + 1, by omega, by go_num, T3, Lib.hid (HBQ.out (by first | rfl | trivial))⟩, by simp [intOf]; omega⟩
        · have HQA := Lib.hid (show ∀ q ∈ qs, q.okU w from fun q hq => by
            obtain ⟨j, hj, rfl⟩ := List.getElem_of_mem hq
            exact HQJ.out j hj (by omega))
          obtain ⟨inf, hi, hz0, hz1, hz2⟩ := info_parts rl_info'
          have HINF := Lib.hid hi
          have T2 := TR.out.drew
          have hown : (wr.drew.alloc (.cells #[] 54)).ownsRow wr.heap.size 54 2 (.slice (some ⟨wr.heap.size, 0, none⟩) 0 0) 0 [] := World.ownsRow_made wr.drew #[] 0 (Nat.le_refl _) (Nat.zero_le _) (by simp)
          have hlow : Below wr.heap.size wr (wr.drew.alloc (.cells #[] 54)) := (below_drew (Below.refl _ _)).alloc (Nat.le_refl _) _
          have T4 := TR.out.later hlow
          obtain ⟨ca, fa, za⟩ := TR.out.a
          have hza : w.heap.size < wr.heap.size := za
          clear hi fa za
          go_wp2_with fail
          go_region_held3 (fun W => ∀ o, W.cell? ⟨w.heap.size, o, none⟩ = (#[.slice a0 l.length c0, .slice a1 g.length c1, .slice a2 h.length c2, .slice a3 qs.length c3] : Array Value)[o]?)
            (first | exact T2.a.1 | exact T4.a.1 | exact T5.a.1 | exact T6.a.1 | go_keep)
            (first
              | (refine step_row rfl _ _ 23 rfl wr.heap.size 54 inf _ 2 32 Tryz.underlying23 HINF.out hz0 hz1 hz2 (Nat.le_of_ble_eq_true rfl) rfl (Nat.le_of_ble_eq_true rfl) _ 0 [] rfl hown _ g.length _ rfl (HP.out.rg.below T4.low) (rls_one _) ?_ hlow.size ?_; omega; intro a5 c5 w5 hown5 hg5; have hb5 := below_own hlow hown hg5 hlow.size (Nat.le_refl _); have T5 := TR.out.later hb5)
              | (refine step_row rfl _ _ 23 rfl wr.heap.size 54 inf _ 2 32 Tryz.underlying23 HINF.out hz0 hz1 hz2 (Nat.le_of_ble_eq_true rfl) rfl (Nat.le_of_ble_eq_true rfl) _ (0 + g.length) _ rfl hown5 _ h.length _ rfl (HP.out.rh.below T5.low) (rls_one _) ?_ hb5.size ?_; omega; intro a6 c6 w6 hown6 hg6; have hb6 := below_own hb5 hown5 hg6 hb5.size (Nat.le_refl _); have T6 := TR.out.later hb6; obtain ⟨n6, hn6⟩ : ∃ n6, n6 = 0 + g.length + h.length := ⟨_, rfl⟩; rw [← hn6] at hown6 ⊢; have HN6 := Lib.hid hn6; clear hn6))
          have HS6 := Lib.hid (show Sl w6 2 (.slice a6 n6 c6) n6 ((g ++ h).flatMap Rl.cells) by have := Sl.of_own hown6; rw [rl_flat]; simpa using this)
          have HLe := Lib.hid (show ∀ x ∈ g ++ h, x.le 9223372036854775807 from fun x hx => by
            rcases List.mem_append.1 hx with hx | hx
            · exact HP.out.lg x hx
            · exact HP.out.lh x hx)
          have HN := Lib.hid (show n6 = (g ++ h).length by rw [HN6.out, List.length_append]; omega)
          have HB6 := Lib.hid T6.low
          have hn6m : n6 ≤ 1000 := by have := HN6.out; omega
          have HGH : ∃ gh, Hid (g ++ h = gh) := ⟨_, Lib.hid rfl⟩
          obtain ⟨gh, HGH⟩ := HGH
          rw [HGH.out] at HS6 HLe HN
          clear hown5 hown6 hg5 hg6 hb5 hb6 T2 T4 T5 T6 hlow hown ca hza TR HN6
          go_wp2_with fail
          go_loopw [61] (fun i wr => ∃ k : Nat, k ≤ n6 ∧ i = .int .i64 k ∧ Hid (Below w6.heap.size w6 wr) ∧ Hid (∀ j (hj : j < gh.length), j < k → gh[j].le 40)) (fun i _ => n6 - (intOf i).toNat)
          case atStart => exact ⟨0, by omega, rfl, Lib.hid (Below.refl _ _), Lib.hid (fun _ _ h => absurd h (by omega))⟩
          case round =>
            obtain ⟨k, hk, rfl, HB, HRJ⟩ := hrel
            by_cases hlt : k < n6
            · obtain ⟨b1, o1, e1, he1, hc1, hm1', hb1, hx1⟩ := HS6.out.pos (by omega)
              simp only [Value.slice.injEq, true_and] at he1
              obtain ⟨rfl, rfl⟩ := he1
              have hlt2 : k < gh.length := by have := HN.out; omega
              obtain ⟨p0, p1⟩ := rl_cell (w := wr) (fun j u hu => (HB.out.cell (p := ⟨b1, o1 + j, none⟩) hb1).trans (hx1 j u hu)) k hlt2
              have hbr : b1 < wr.heap.size := Nat.lt_of_lt_of_le hb1 HB.out.size
              have hle := HLe.out _ (List.getElem_mem hlt2)
              have HR2 : Hid (gh[k].le 40 → ∀ j (hj : j < gh.length), j < k + 1 → gh[j].le 40) := Lib.hid (fun hpk j hj hjk => by
                by_cases h : j < k
                · exact HRJ.out j hj h
                · obtain rfl : j = k := by omega
                  exact hpk)
              clear hx1
              generalize gh[k] = x at *
              obtain ⟨x1, x2⟩ := x
              have hz1' : x1.size ≤ 9223372036854775807 := hle.1
              have hz2' : x2.size ≤ 9223372036854775807 := hle.2
              have HB2 := Lib.hid (HB.out.alloc HB.out.size (.cells #[.string x1, .string x2] 54))
              clear hle
              by_cases q1 : 40 < x1.size
              · have d1 : decide ((40 : Int) < (x1.size : Int)) = true := by (rw [decide_eq_true_iff]; omega)
                clear q1
                go_wp2
                go_ret
                exact ⟨⟨false, rfl, (fun h => by cases h)⟩, HB6.out.trans (HB2.out.mono HB6.out.size)⟩
              have d1 : decide ((40 : Int) < (x1.size : Int)) = false := by (rw [decide_eq_false_iff_not]; omega)
              have Q1 := Lib.hid q1
              clear q1
              by_cases q2 : 40 < x2.size
              · have d2 : decide ((40 : Int) < (x2.size : Int)) = true := by (rw [decide_eq_true_iff]; omega)
                clear q2
                go_wp2
                go_ret
                exact ⟨⟨false, rfl, (fun h => by cases h)⟩, HB6.out.trans (HB2.out.mono HB6.out.size)⟩
              have d2 : decide ((40 : Int) < (x2.size : Int)) = false := by (rw [decide_eq_false_iff_not]; omega)
              have HR3 := Lib.hid (HR2.out ⟨by have := Q1.out; show x1.size ≤ 40; omega, by show x2.size ≤ 40; omega⟩)
              clear q2
              go_wp2
              exact ⟨⟨k + 1, by omega, by go_num, HB2, HR3⟩, by simp [intOf]; omega⟩
            · have HR4 : Hid (∀ x ∈ g ++ h, x.le 40) := Lib.hid (by
                rw [HGH.out]
                intro x hx
                obtain ⟨j, hj, rfl⟩ := List.getElem_of_mem hx
                exact HRJ.out j hj (by have := HN.out; omega))
              go_wp2
              go_ret
              exact ⟨⟨true, rfl, (fun _ => ⟨⟨by omega, by omega, by omega, by omega, HJ3.out, HQA.out⟩, HR4.out⟩)⟩, HB6.out.trans (HB.out.mono HB6.out.size)⟩
end Go.Proofs.YtnhkgfgbhedphaaGreatDoor
namespace Go.Proofs.YtnhkgfgbhedphaaGreatDoor
open Go.RowKit Go.Shelf

theorem PolAt.give {w : World} {v0 v1 v2 v3 : Value} {l : List St} {g h : List Rl} {qs : List Qv} (H : PolAt w v0 v1 v2 v3 l g h qs) :
    ∃ zs : List (Qd × Value), PolD w v0 v1 v2 v3 ⟨l, g, h, zs.map (·.1)⟩ zs ∧ zs.map qz = qs := by
  have hz : (qs.map (fun q : Qv => ((⟨q.k, q.a, q.b, whoAt w q.w⟩ : Qd), q.w))).map qz = qs := by
    rw [List.map_map]
    conv => rhs; rw [← List.map_id qs]
    rfl
  refine ⟨qs.map (fun q : Qv => ((⟨q.k, q.a, q.b, whoAt w q.w⟩ : Qd), q.w)), ⟨rfl, H.rs, H.rg, H.rh, ?_, ?_⟩, hz⟩
  · rw [hz, List.length_map]
    exact H.rq
  · intro z hz
    obtain ⟨q, hq, rfl⟩ := List.mem_map.1 hz
    obtain ⟨_, _, ss, hs, _⟩ := H.lq q hq
    dsimp only
    rw [whoAt_eq hs]
    exact hs
theorem leP_light {w : World} {v0 v1 v2 v3 : Value} {l : List St} {g h : List Rl} {zs : List (Qd × Value)} (H : PolD w v0 v1 v2 v3 ⟨l, g, h, zs.map (·.1)⟩ zs) (hl : allLe l 40) (hq : ∀ q ∈ zs.map qz, q.okU w) (hgh : ∀ x ∈ g ++ h, x.le 40) :
    LeP ⟨l, g, h, zs.map (·.1)⟩ 40 40 := by
  have a : ∀ z ∈ zs, (qz z).okU w := fun z hz => hq _ (List.mem_map.2 ⟨z, hz, rfl⟩)
  refine ⟨hl, fun x hx => hgh x (List.mem_append.2 (.inl hx)), fun x hx => hgh x (List.mem_append.2 (.inr hx)), ?_, ?_, ?_, ?_⟩
  · intro x hx
    obtain ⟨z, hz, rfl⟩ := List.mem_map.1 hx
    exact (a z hz).1.2.1
  · intro x hx
    obtain ⟨z, hz, rfl⟩ := List.mem_map.1 hx
    exact (a z hz).1.2.2
  · intro x hx
    obtain ⟨z, hz, rfl⟩ := List.mem_map.1 hx
    obtain ⟨_, ss, hs, hle⟩ := a z hz
    have e : ss = z.1.us := SlA.same hs (H.rw z hz)
    rw [← e]
    exact hle
  · intro x hx
    obtain ⟨z, hz, rfl⟩ := List.mem_map.1 hx
    obtain ⟨⟨⟨_, _, ss, hs, hle, _⟩, _⟩, _⟩ := a z hz
    have e : ss = z.1.us := SlA.same hs (H.rw z hz)
    rw [← e]
    exact hle
end Go.Proofs.YtnhkgfgbhedphaaGreatDoor
namespace Go.Proofs.YtnhkgfgbhedphaaGreatDoor
open Go.RowKit Go.Shelf

theorem joinN_size (M : Nat) : ∀ (L : List ByteArray), (∀ s ∈ L, s.size ≤ M) → (joinN L).length ≤ L.length * (M + 1)
  | [], _ => by simp [joinN]
  | s :: L, h => by
    have h1 := joinN_size M L (fun x hx => h x (by simp [hx]))
    have h2 := h s (by simp)
    have e : joinN (s :: L) = bl s ++ 10 :: joinN L := by unfold joinN; simp
    rw [e, List.length_append, List.length_cons, bl_len, List.length_cons, Nat.succ_mul]
    omega
theorem textP_size {p : Pd} (h : RightD p) : (textP p).size ≤ 40000 := by
  have h1 := joinN_size 200 (linesD p) (fun s hs => by
    unfold linesD at hs
    simp only [List.mem_append, List.mem_map] at hs
    rcases hs with ((⟨x, hx, rfl⟩ | ⟨x, hx, rfl⟩) | ⟨x, hx, rfl⟩) | ⟨x, hx, rfl⟩
    · have := printS_size (h.ok.l x hx); omega
    · have := growT_size (h.ok.g x hx); omega
    · have := shrinkT_size (h.ok.h x hx); omega
    · exact textQ_size x (h.ok.q x hx))
  obtain ⟨a, b, c, d⟩ := fits_few h.f
  have e : (linesD p).length = p.l.length + p.g.length + p.h.length + p.q.length := by unfold linesD; simp only [List.length_append, List.length_map]
  have e2 : (textP p).size = (joinN (linesD p)).length := by rw [← bl_len]; unfold textP; rw [bl_mk]
  rw [e] at h1
  omega
theorem print_right {w : World} {v0 v1 v2 v3 : Value} {p : Pd} {zs : List (Qd × Value)} (H : PolD w v0 v1 v2 v3 p zs) (hr : RightD p) :
    Calls Tryz.prog 30 #[pv v0 v1 v2 v3] w fun e w' => e = .returned (.string (textP p)) ∧ Below w.heap.size w w' := by
  obtain ⟨a, b, c, d⟩ := fits_few hr.f
  refine (policy_Print v0 v1 v2 v3 p zs w H ((okP_le hr.ok).mono (by decide) (by decide)) a b c (by omega)).mono ?_
  rintro e w1 ⟨⟨t, rfl, ht, _⟩, hb⟩
  exact ⟨by rw [ht hr], hb⟩
theorem right_any {w : World} {v0 v1 v2 v3 : Value} {p : Pd} {zs : List (Qd × Value)} (H : PolD w v0 v1 v2 v3 p zs) (hle : LeP p 4294967 40) (hl : p.l.length ≤ 80) (hg : p.g.length ≤ 40) (hh : p.h.length ≤ 40) (hq : p.q.length ≤ 100) :
    Calls Tryz.prog 31 #[pv v0 v1 v2 v3] w fun e w' => (∃ b, e = .returned (.bool b) ∧ (b = true ↔ RightD p)) ∧ Below w.heap.size w w' := by
  have hm : ∀ z ∈ zs, z.1 ∈ p.q := fun z hz => by rw [← H.z]; exact List.mem_map_of_mem hz
  refine (policy_RightL v0 v1 v2 v3 p.l p.g p.h (zs.map qz) w (H.at (hle.mono (by decide) (Nat.le_refl _))) hl hg hh (by rw [H.qlen]; exact hq) (fun x hx => hle.l x hx) (fun x hx => (List.mem_append.1 hx).elim (hle.g x) (hle.h x)) (fun q hq => by
    obtain ⟨z, hz, rfl⟩ := List.mem_map.1 hq
    exact ⟨hle.qa _ (hm z hz), hle.qb _ (hm z hz)⟩) (FAt w) (H.who hle (by decide)) (fun q hq s hs => by
    obtain ⟨z, hz, rfl⟩ := List.mem_map.1 hq
    rw [H.F z hz] at hs
    have := hle.qs _ (hm z hz) s hs
    omega)).mono ?_
  rintro e w1 ⟨⟨b, rfl, hb⟩, hw⟩
  exact ⟨⟨b, rfl, hb.trans (rightD_iff H.z H.F hl hg hh)⟩, hw⟩
end Go.Proofs.YtnhkgfgbhedphaaGreatDoor
namespace Go.Proofs.YtnhkgfgbhedphaaGreatDoor
open Go.RowKit Go.Shelf

def stepT (a : List UInt8 × List UInt8) (c : UInt8) : List UInt8 × List UInt8 :=
  if c = 10 then ([32, 32] ++ a.2 ++ [32, 35, 32, 120, 10, 10] ++ a.1 ++ a.2 ++ [10], []) else (a.1, a.2 ++ [c])
theorem stepT_line : ∀ (s : List UInt8) (a b : List UInt8) (r : List UInt8), (∀ c ∈ s, ¬ c = 10) →
    (s ++ 10 :: r).foldl stepT (a, b) = r.foldl stepT ([32, 32] ++ (b ++ s) ++ [32, 35, 32, 120, 10, 10] ++ a ++ (b ++ s) ++ [10], [])
  | [], a, b, r, _ => by
    rw [List.nil_append, List.foldl_cons, List.append_nil]
    unfold stepT
    rw [if_pos rfl]
  | c :: s, a, b, r, h => by
    rw [List.cons_append, List.foldl_cons]
    have e : stepT (a, b) c = (a, b ++ [c]) := by unfold stepT; rw [if_neg (h c (by simp))]
    rw [e, stepT_line s a (b ++ [c]) r (fun d hd => h d (by simp [hd]))]
    rw [List.append_assoc b [c] s]
    rfl
theorem stepT_all : ∀ (L : List ByteArray) (acc : List UInt8), (∀ s ∈ L, ∀ c ∈ bl s, ¬ c = 10) → (joinN L).foldl stepT (acc, []) = (L.foldl turnG acc, [])
  | [], acc, _ => rfl
  | s :: L, acc, h => by
    have e : joinN (s :: L) = bl s ++ 10 :: joinN L := by unfold joinN; simp
    rw [e, stepT_line _ _ _ _ (h s (by simp)), stepT_all L _ (fun x hx => h x (by simp [hx])), List.foldl_cons]
    congr 1
    congr 1
    unfold turnG frameB
    rw [bl_app, bl_app, show bl (⟨#[32, 32]⟩ : ByteArray) = [32, 32] from rfl, show bl (⟨#[32, 35, 32, 120]⟩ : ByteArray) = [32, 35, 32, 120] from rfl]
    simp
theorem stepT_len : ∀ (l : List UInt8) (a : List UInt8 × List UInt8), (l.foldl stepT a).1.length + 2 * (l.foldl stepT a).2.length ≤ a.1.length + 2 * a.2.length + 9 * l.length
  | [], a => by simp
  | c :: l, a => by
    rw [List.foldl_cons]
    have h := stepT_len l (stepT a c)
    have e : (stepT a c).1.length + 2 * (stepT a c).2.length ≤ a.1.length + 2 * a.2.length + 9 := by
      unfold stepT
      split
      · simp only [List.length_append, List.length_cons, List.length_nil]; omega
      · simp only [List.length_append, List.length_cons, List.length_nil]; omega
    rw [List.length_cons]
    omega
theorem turn_size : ∀ (L : List ByteArray) (acc : List UInt8), (L.foldl turnG acc).length = acc.length + 2 * (joinN L).length + 7 * L.length
  | [], acc => by simp [joinN]
  | s :: L, acc => by
    have e : joinN (s :: L) = bl s ++ 10 :: joinN L := by unfold joinN; simp
    rw [List.foldl_cons, turn_size L, e]
    have e2 : (turnG acc s).length = acc.length + 2 * (bl s).length + 9 := by
      unfold turnG frameB
      rw [bl_app, bl_app, show bl (⟨#[32, 32]⟩ : ByteArray) = [32, 32] from rfl, show bl (⟨#[32, 35, 32, 120]⟩ : ByteArray) = [32, 35, 32, 120] from rfl]
      simp only [List.length_append, List.length_cons, List.length_nil]
      omega
    rw [e2]
    simp only [List.length_append, List.length_cons]
    omega
def atT (t : ByteArray) (k : Nat) : List UInt8 × List UInt8 := ((bl t).take k).foldl stepT ([], [])
theorem atT_next {t : ByteArray} {k : Nat} (h : k < t.size) : atT t (k + 1) = stepT (atT t k) t[k] := by
  unfold atT
  rw [bl_take t k h, List.foldl_append]
  rfl
theorem atT_ten {t : ByteArray} {k : Nat} (h : k < t.size) (hc : t[k] = 10) :
    (⟨#[32, 32]⟩ : ByteArray) ++ ⟨(atT t k).2.toArray⟩ ++ ⟨#[32, 35, 32, 120, 10, 10]⟩ ++ ⟨(atT t k).1.toArray⟩ ++ ⟨(atT t k).2.toArray⟩ ++ ⟨#[10]⟩ = ⟨(atT t (k + 1)).1.toArray⟩ ∧ (⟨#[]⟩ : ByteArray) = ⟨(atT t (k + 1)).2.toArray⟩ := by
  rw [atT_next h, hc]
  unfold stepT
  rw [if_pos rfl]
  refine ⟨bl_inj.1 ?_, rfl⟩
  simp only [bl_append, bl_mk]
theorem atT_more {t : ByteArray} {k : Nat} (h : k < t.size) (hc : ¬ t[k] = 10) :
    (⟨(atT t k).1.toArray⟩ : ByteArray) = ⟨(atT t (k + 1)).1.toArray⟩ ∧ (⟨(atT t k).2.toArray⟩ : ByteArray) ++ ⟨#[t[k]]⟩ = ⟨(atT t (k + 1)).2.toArray⟩ := by
  rw [atT_next h]
  unfold stepT
  rw [if_neg hc]
  refine ⟨rfl, bl_inj.1 ?_⟩
  simp only [bl_append, bl_mk]
theorem atT_len (t : ByteArray) (k : Nat) : (atT t k).1.length + 2 * (atT t k).2.length ≤ 9 * k := by
  have h := stepT_len ((bl t).take k) ([], [])
  have h2 : ((bl t).take k).length ≤ k := List.length_take_le ..
  simp only [List.length_nil] at h
  unfold atT
  omega
theorem atT_end {p : Pd} (h : OkP p) : atT (textP p) (textP p).size = (turnT (linesD p), []) := by
  unfold atT
  rw [List.take_of_length_le (by rw [bl_len]; exact Nat.le_refl _)]
  have e : bl (textP p) = joinN (linesD p) := by unfold textP; rw [bl_mk]
  rw [e, stepT_all _ _ (linesD_ten h)]
  rfl
theorem turn_few {p : Pd} (hl : p.l.length ≤ 30) (hg : p.g.length ≤ 30) (hh : p.h.length ≤ 30) (hq : p.q = []) (h3 : (textP p).size ≤ 3000) : (turnT (linesD p)).length ≤ 8000 := by
  unfold turnT
  rw [turn_size]
  have e : (linesD p).length = p.l.length + p.g.length + p.h.length + p.q.length := by unfold linesD; simp only [List.length_append, List.length_map]
  have e2 : (textP p).size = (joinN (linesD p)).length := by rw [← bl_len]; unfold textP; rw [bl_mk]
  rw [hq] at e
  simp only [List.length_nil] at e ⊢
  omega
end Go.Proofs.YtnhkgfgbhedphaaGreatDoor
namespace Go.Proofs.YtnhkgfgbhedphaaGreatDoor
open Go.RowKit Go.Shelf

end Go.Proofs.YtnhkgfgbhedphaaGreatDoor
namespace Go.Proofs.YtnhkgfgbhedphaaGreatDoor
open Go.RowKit Go.Shelf

theorem take_moreT {α : Type} {l m : List α} {k : Nat} (h : l.take k = m.take k) (hl : k < l.length) (hm : k < m.length) (e : l[k] = m[k]) : l.take (k + 1) = m.take (k + 1) := by
  rw [List.take_succ_eq_append_getElem hl, List.take_succ_eq_append_getElem hm, h, e]
theorem same_endT {l m : List ByteArray} {k : Nat} (h : l.take k = m.take k) (hl : ¬ k < l.length) (hm : ¬ k < m.length) : decide (l = m) = true := by
  rw [List.take_of_length_le (by omega), List.take_of_length_le (by omega)] at h
  exact decide_eq_true h
theorem same_noT {l m : List ByteArray} {k : Nat} (hl : k < l.length) (hm : k < m.length) (e : ¬ l[k] = m[k]) : decide (l = m) = false := decide_eq_false (fun h => e (by subst h; rfl))
theorem same_lenT {l m : List ByteArray} (h : ¬ l.length = m.length) : decide (l = m) = false := decide_eq_false (fun e => h (by rw [e]))
set_option maxRecDepth 100000 in
set_option maxHeartbeats 2000000 in
theorem str_Equal (va vb : Value) (l m : List ByteArray) (w : World) (ha : SlA w 1 va l.length (strs l)) (hb : SlA w 1 vb m.length (strs m)) :
    Calls Tryz.prog 132 #[va, vb] w fun e w' => e = .returned (.bool (decide (l = m))) ∧ ∃ n, w' = w.drewN n := by
  have hmax := ha.max
  have hmax2 := hb.max
  by_cases hl : l.length = m.length
  case neg =>
    have R := Lib.hid (same_lenT hl)
    have d : ((l.length : Int) != (m.length : Int)) = true := by rw [bne_iff_ne]; omega
    obtain ⟨a1, c1, rfl⟩ := ha.form
    obtain ⟨a2, c2, rfl⟩ := hb.form
    clear ha hb hl
    go_enter Tryz.func132, Tryz.ntmps132
    go_wp2
    go_ret
    exact ⟨ret_b R.out.symm, 0, rfl⟩
  have hne : ((l.length : Int) != (m.length : Int)) = false := by rw [hl]; simp
  by_cases h0 : 0 < l.length
  · obtain ⟨b1, o1, c1, rfl, hc1, hm1, _, hx1⟩ := ha.pos h0
    obtain ⟨b2, o2, c2, rfl, hc2, hm2, _, hx2⟩ := hb.pos (by omega)
    have HX1 := Lib.hid hx1
    have HX2 := Lib.hid hx2
    have HL := Lib.hid hl
    clear ha hb hx1 hx2 hl
    go_enter Tryz.func132, Tryz.ntmps132
    go_wp2
    go_loopw [13] (fun i wr => ∃ k n : Nat, k ≤ l.length ∧ i = .int .i64 k ∧ wr = w.drewN n ∧ Hid (l.take k = m.take k)) (fun i _ => l.length - (intOf i).toNat)
    case atStart => exact ⟨0, 0, by omega, rfl, rfl, Lib.hid (by simp)⟩
    case round =>
      obtain ⟨k, n, hk, rfl, rfl, HT⟩ := hrel
      by_cases hlt : k < l.length
      · have hlt2 : k < m.length := by have := HL.out; omega
        have p0 := HX1.out k _ (strs_get hlt)
        have q0 := HX2.out k _ (strs_get hlt2)
        by_cases he : l[k] = m[k]
        · have HN := Lib.hid (take_moreT HT.out hlt hlt2 he)
          have d1 : (!(l[k].toList == m[k].toList)) = false := by rw [beq_str, decide_eq_true he]; rfl
          clear he
          generalize l[k] = x at *
          generalize m[k] = y at *
          go_wp2_with fail
          go_big_quiet (fail)
          go_wp2
          exact ⟨⟨k + 1, n + nq, by omega, by go_num, rfl, HN⟩, by simp [intOf]; omega⟩
        · have R := Lib.hid (same_noT hlt hlt2 he)
          have d1 : (!(l[k].toList == m[k].toList)) = true := by rw [beq_str, decide_eq_false he]; rfl
          clear he
          generalize l[k] = x at *
          generalize m[k] = y at *
          go_wp2_with fail
          go_big_quiet (fail)
          go_wp2
          go_ret
          exact ⟨ret_b R.out.symm, n + nq, by simp [World.drewN, Nat.add_assoc]⟩
      · have R := Lib.hid (same_endT HT.out hlt (by have := HL.out; omega))
        go_wp2
        go_ret
        exact ⟨ret_b R.out.symm, n, rfl⟩
  · have R := Lib.hid (same_endT (l := l) (m := m) (k := 0) (by simp) h0 (by omega))
    obtain ⟨a1, c1, rfl⟩ := ha.form
    obtain ⟨a2, c2, rfl⟩ := hb.form
    have d0 : l.length = 0 := by omega
    have d02 : m.length = 0 := by omega
    clear ha hb h0 hmax hl hmax2
    go_enter Tryz.func132, Tryz.ntmps132
    go_wp2
    go_loopw [13] (fun i wr => i = .int .i64 0 ∧ wr = w) (fun _ _ => 0)
    case atStart => exact ⟨rfl, rfl⟩
    case round =>
      obtain ⟨rfl, rfl⟩ := hrel
      go_wp2
      go_ret
      exact ⟨ret_b R.out.symm, 0, rfl⟩
end Go.Proofs.YtnhkgfgbhedphaaGreatDoor
namespace Go.Proofs.YtnhkgfgbhedphaaGreatDoor
open Go.RowKit Go.Shelf

set_option maxRecDepth 100000 in
set_option maxHeartbeats 2000000 in
theorem ref1_SameQ (va vb : Value) (l m : List ByteArray) (w : World) (ha : SlA w 1 va l.length (strs l)) (hb : SlA w 1 vb m.length (strs m)) :
    Calls Tryz.prog 13 #[va, vb] w fun e w' => e = .returned (.bool (decide (l = m))) ∧ ∃ n, w' = w.drewN n := by
  have hmax := ha.max
  have hmax2 := hb.max
  by_cases hl : l.length = m.length
  case neg =>
    have R := Lib.hid (same_lenT hl)
    have d : ((l.length : Int) != (m.length : Int)) = true := by rw [bne_iff_ne]; omega
    obtain ⟨a1, c1, rfl⟩ := ha.form
    obtain ⟨a2, c2, rfl⟩ := hb.form
    clear ha hb hl
    go_enter Tryz.func13, Tryz.ntmps13
    go_wp2
    go_ret
    exact ⟨ret_b R.out.symm, 0, rfl⟩
  have hne : ((l.length : Int) != (m.length : Int)) = false := by rw [hl]; simp
  by_cases h0 : 0 < l.length
  · obtain ⟨b1, o1, c1, rfl, hc1, hm1, _, hx1⟩ := ha.pos h0
    obtain ⟨b2, o2, c2, rfl, hc2, hm2, _, hx2⟩ := hb.pos (by omega)
    have HX1 := Lib.hid hx1
    have HX2 := Lib.hid hx2
    have HL := Lib.hid hl
    clear ha hb hx1 hx2 hl
    go_enter Tryz.func13, Tryz.ntmps13
    go_wp2
    go_loopw [13] (fun i wr => ∃ k n : Nat, k ≤ l.length ∧ i = .int .i64 k ∧ wr = w.drewN n ∧ Hid (l.take k = m.take k)) (fun i _ => l.length - (intOf i).toNat)
    case atStart => exact ⟨0, 0, by omega, rfl, rfl, Lib.hid (by simp)⟩
    case round =>
      obtain ⟨k, n, hk, rfl, rfl, HT⟩ := hrel
      by_cases hlt : k < l.length
      · have hlt2 : k < m.length := by have := HL.out; omega
        have p0 := HX1.out k _ (strs_get hlt)
        have q0 := HX2.out k _ (strs_get hlt2)
        by_cases he : l[k] = m[k]
        · have HN := Lib.hid (take_moreT HT.out hlt hlt2 he)
          have d1 : (!(l[k].toList == m[k].toList)) = false := by rw [beq_str, decide_eq_true he]; rfl
          clear he
          generalize l[k] = x at *
          generalize m[k] = y at *
          go_wp2_with fail
          go_big_quiet (fail)
          go_wp2
          exact ⟨⟨k + 1, n + nq, by omega, by go_num, rfl, HN⟩, by simp [intOf]; omega⟩
        · have R := Lib.hid (same_noT hlt hlt2 he)
          have d1 : (!(l[k].toList == m[k].toList)) = true := by rw [beq_str, decide_eq_false he]; rfl
          clear he
          generalize l[k] = x at *
          generalize m[k] = y at *
          go_wp2_with fail
          go_big_quiet (fail)
          go_wp2
          go_ret
          exact ⟨ret_b R.out.symm, n + nq, by simp [World.drewN, Nat.add_assoc]⟩
      · have R := Lib.hid (same_endT HT.out hlt (by have := HL.out; omega))
        go_wp2
        go_ret
        exact ⟨ret_b R.out.symm, n, rfl⟩
  · have R := Lib.hid (same_endT (l := l) (m := m) (k := 0) (by simp) h0 (by omega))
    obtain ⟨a1, c1, rfl⟩ := ha.form
    obtain ⟨a2, c2, rfl⟩ := hb.form
    have d0 : l.length = 0 := by omega
    have d02 : m.length = 0 := by omega
    clear ha hb h0 hmax hl hmax2
    go_enter Tryz.func13, Tryz.ntmps13
    go_wp2
    go_loopw [13] (fun i wr => i = .int .i64 0 ∧ wr = w) (fun _ _ => 0)
    case atStart => exact ⟨rfl, rfl⟩
    case round =>
      obtain ⟨rfl, rfl⟩ := hrel
      go_wp2
      go_ret
      exact ⟨ret_b R.out.symm, 0, rfl⟩
theorem ref1_SameQB (va vb : Value) (l m : List ByteArray) (w : World) (ha : SlA w 1 va l.length (strs l)) (hb : SlA w 1 vb m.length (strs m)) :
    Calls Tryz.prog 13 #[va, vb] w fun e w' => e = .returned (.bool (decide (l = m))) ∧ Below w.heap.size w w' :=
  (ref1_SameQ va vb l m w ha hb).mono fun e w' ⟨he, n, hn⟩ => ⟨he, by rw [hn]; exact below_of_drewN n⟩
theorem str_EqualQB (va vb : Value) (l m : List ByteArray) (w : World) (ha : SlA w 1 va l.length (strs l)) (hb : SlA w 1 vb m.length (strs m)) :
    Calls Tryz.prog 132 #[va, vb] w fun e w' => e = .returned (.bool (decide (l = m))) ∧ Below w.heap.size w w' :=
  (str_Equal va vb l m w ha hb).mono fun e w' ⟨he, n, hn⟩ => ⟨he, by rw [hn]; exact below_of_drewN n⟩
def sameQ (x y : Qd) : Bool := if x.k = y.k then if x.a = y.a then if x.b = y.b then decide (x.us = y.us) else false else false else false
theorem sameQ_iff {x y : Qd} : sameQ x y = true ↔ x = y := by
  obtain ⟨k, a, b, us⟩ := x
  obtain ⟨k', a', b', us'⟩ := y
  unfold sameQ
  simp only [Qd.mk.injEq]
  constructor
  · intro h
    split at h
    · split at h
      · split at h
        · exact ⟨by assumption, by assumption, by assumption, of_decide_eq_true h⟩
        · exact absurd h (by decide)
      · exact absurd h (by decide)
    · exact absurd h (by decide)
  · rintro ⟨rfl, rfl, rfl, rfl⟩
    simp
set_option maxRecDepth 100000 in
set_option maxHeartbeats 2000000 in
theorem query_SameQ (x y : Qd) (va vb : Value) (w : World) (ha : SlA w 1 va x.us.length (strs x.us)) (hb : SlA w 1 vb y.us.length (strs y.us)) :
    Calls Tryz.prog 84 #[qdv x va, qdv y vb] w fun e w' => e = .returned (.bool (sameQ x y)) ∧ Below w.heap.size w w' := by
  have E := Lib.hid (show sameQ x y = (if x.k = y.k then if x.a = y.a then if x.b = y.b then decide (x.us = y.us) else false else false else false) from rfl)
  have hEq := role_eql
  have SS := Lib.hid (fun W (h : Below w.heap.size w W) => str_EqualQB va vb x.us y.us W (ha.below h) (hb.below h))
  generalize sameQ x y = r at *
  obtain ⟨k, ⟨x1, x2⟩, ⟨x3, x4⟩, us⟩ := x
  obtain ⟨k', ⟨y1, y2⟩, ⟨y3, y4⟩, us'⟩ := y
  dsimp only at E SS ha hb
  obtain ⟨wo, wc, rfl⟩ := ha.form
  obtain ⟨uo, uc, rfl⟩ := hb.form
  have HT := Lib.hid (TwoAt.new w #[.int .i64 k, .string x1, .string x2, .string x3, .string x4, .slice wo us.length wc] #[.int .i64 k', .string y1, .string y2, .string y3, .string y4, .slice uo us'.length uc] 66 66)
  have SS := Lib.hid (SS.out _ HT.out.low)
  clear ha hb
  by_cases h1 : k = k'
  case neg =>
    have R := Lib.hid (show r = false by rw [E.out, if_neg h1])
    have d1 : (k == k') = false := by simpa using h1
    clear h1 E
    go_enter Tryz.func84, Tryz.ntmps84
    go_wp2
    go_ret
    exact ⟨ret_b R.out.symm, HT.out.low⟩
  rw [if_pos h1] at E
  subst h1
  by_cases h2 : (⟨x1, x2⟩ : Rl) = ⟨y1, y2⟩
  case neg =>
    have R := Lib.hid (show r = false by rw [E.out, if_neg h2])
    have d1 : eqRl ⟨x1, x2⟩ ⟨y1, y2⟩ = false := decide_eq_false h2
    clear h2 E
    go_enter Tryz.func84, Tryz.ntmps84
    go_wp2
    go_ret
    exact ⟨ret_b R.out.symm, HT.out.low⟩
  rw [if_pos h2] at E
  have d1 : eqRl ⟨x1, x2⟩ ⟨y1, y2⟩ = true := decide_eq_true h2
  clear h2
  by_cases h3 : (⟨x3, x4⟩ : Rl) = ⟨y3, y4⟩
  case neg =>
    have R := Lib.hid (show r = false by rw [E.out, if_neg h3])
    have d2 : eqRl ⟨x3, x4⟩ ⟨y3, y4⟩ = false := decide_eq_false h3
    clear h3 E
    go_enter Tryz.func84, Tryz.ntmps84
    go_wp2
    go_ret
    exact ⟨ret_b R.out.symm, HT.out.low⟩
  rw [if_pos h3] at E
  have d2 : eqRl ⟨x3, x4⟩ ⟨y3, y4⟩ = true := decide_eq_true h3
  clear h3
  generalize decide (us = us') = d at *
  have R := Lib.hid E.out
  clear E
  go_enter Tryz.func84, Tryz.ntmps84
  go_wp2_with fail
  refine SS.out.mono ?_
  rintro e w1 ⟨rfl, hb⟩
  have HT := Lib.hid (HT.out.later hb)
  clear hb SS
  go_wp2
  go_ret
  exact ⟨ret_b R.out.symm, HT.out.low⟩
end Go.Proofs.YtnhkgfgbhedphaaGreatDoor
namespace Go.Proofs.YtnhkgfgbhedphaaGreatDoor
open Go.RowKit Go.Shelf

instance : DecidableEq Qd := fun x y => decidable_of_iff (sameQ x y = true) sameQ_iff
theorem take_same {α : Type} {l m : List α} {k : Nat} (h : l.take k = m.take k) (h1 : k < l.length) (h2 : k < m.length) (he : l[k] = m[k]) : l.take (k + 1) = m.take (k + 1) := by
  rw [List.take_succ_eq_append_getElem h1, List.take_succ_eq_append_getElem h2, h, he]
end Go.Proofs.YtnhkgfgbhedphaaGreatDoor
namespace Go.Proofs.YtnhkgfgbhedphaaGreatDoor
open Go.RowKit Go.Shelf

def sameD (p q : Pd) : Bool := decide (p.l = q.l) && (decide (p.g = q.g) && (decide (p.h = q.h) && decide (p.q = q.q)))
theorem sameD_iff {p q : Pd} : sameD p q = true ↔ p = q := by
  obtain ⟨a, b, c, d⟩ := p
  obtain ⟨a', b', c', d'⟩ := q
  simp [sameD]
theorem st_EqualB (va vb : Value) (l m : List St) (w : World) (ha : SlA w 9 va l.length (l.flatMap St.cells)) (hb : SlA w 9 vb m.length (m.flatMap St.cells)) :
    Calls Tryz.prog 81 #[va, vb] w fun e w' => e = .returned (.bool (decide (l = m))) ∧ Below w.heap.size w w' :=
  (st_Equal va vb l m w ha hb).mono fun e w' ⟨he, n, hn⟩ => ⟨he, by rw [hn]; exact below_of_drewN n⟩
set_option maxRecDepth 100000 in
set_option maxHeartbeats 4000000 in
theorem q_EqualFunc (va vb : Value) (xs ys : List (Qd × Value)) (w : World) (ha : SlA w 6 va xs.length ((xs.map qz).flatMap Qv.cells)) (hb : SlA w 6 vb ys.length ((ys.map qz).flatMap Qv.cells)) (hx : ∀ z ∈ xs, SlA w 1 z.2 z.1.us.length (strs z.1.us)) (hy : ∀ z ∈ ys, SlA w 1 z.2 z.1.us.length (strs z.1.us)) :
    Calls Tryz.prog 83 #[va, vb, .func (.func 84) #[] #[]] w fun e w' => e = .returned (.bool (decide (xs.map (·.1) = ys.map (·.1)))) ∧ Below w.heap.size w w' := by
  have hm1 := ha.max
  have hm2 := hb.max
  have HA := Lib.hid ha
  have HB := Lib.hid hb
  have HX := Lib.hid hx
  have HY := Lib.hid hy
  obtain ⟨ao, ac, rfl⟩ := ha.form
  obtain ⟨bo, bc, rfl⟩ := hb.form
  have R1 := Lib.hid (fun (h : xs.map (·.1) = ys.map (·.1)) => decide_eq_true h)
  have R0 := Lib.hid (fun (h : ¬ xs.map (·.1) = ys.map (·.1)) => decide_eq_false h)
  generalize decide (xs.map (·.1) = ys.map (·.1)) = res at *
  clear ha hb hx hy
  by_cases hl : xs.length = ys.length
  · have hne : ((xs.length : Int) != (ys.length : Int)) = false := by rw [hl]; simp
    have HL := Lib.hid hl
    clear hl
    go_enter Tryz.func83, Tryz.ntmps83
    go_wp2_with fail
    go_loopw [17] (fun i wr => ∃ k : Nat, k ≤ xs.length ∧ i = .int .i64 k ∧ Hid ((xs.map (·.1)).take k = (ys.map (·.1)).take k) ∧ Hid (Below w.heap.size w wr)) (fun i _ => xs.length - (intOf i).toNat)
    case atStart => exact ⟨0, by omega, rfl, Lib.hid rfl, Lib.hid (Below.refl _ _)⟩
    case round =>
      obtain ⟨k, hk, rfl, HK, HW⟩ := hrel
      by_cases hlt : k < xs.length
      · have hlt2 : k < ys.length := by rw [← HL.out]; exact hlt
        have hlm : k < (xs.map qz).length := by simpa using hlt
        have hlm2 : k < (ys.map qz).length := by simpa using hlt2
        obtain ⟨b1, o1, c1, he1, hc1, hm1', hb1, hx1⟩ := (HA.out.below HW.out).pos (by omega)
        simp only [Value.slice.injEq, true_and] at he1
        obtain ⟨rfl, rfl⟩ := he1
        obtain ⟨b2, o2, c2, he2, hc2, hm2', hb2, hx2⟩ := (HB.out.below HW.out).pos (by omega)
        simp only [Value.slice.injEq, true_and] at he2
        obtain ⟨rfl, rfl⟩ := he2
        obtain ⟨p0, p1, p2, p3, p4, p5⟩ := q_cell (w := wr) (l := xs.map qz) hx1 k hlm
        obtain ⟨q0, q1, q2, q3, q4, q5⟩ := q_cell (w := wr) (l := ys.map qz) hx2 k hlm2
        have e1 : (xs.map qz)[k] = qz xs[k] := by simp
        have e2 : (ys.map qz)[k] = qz ys[k] := by simp
        rw [e1] at p0 p1 p2 p3 p4 p5
        rw [e2] at q0 q1 q2 q3 q4 q5
        have hu1 := (HX.out _ (List.getElem_mem hlt)).below HW.out
        have hu2 := (HY.out _ (List.getElem_mem hlt2)).below HW.out
        have SQ := Lib.hid (fun W (hb : Below wr.heap.size wr W) => query_SameQ xs[k].1 ys[k].1 xs[k].2 ys[k].2 W (hu1.below hb) (hu2.below hb))
        have HN := Lib.hid (fun (h : sameQ xs[k].1 ys[k].1 = true) => take_same HK.out (by simpa using hlt) (by simpa using hlt2) (by simpa using sameQ_iff.1 h))
        have HF := Lib.hid (fun (h : sameQ xs[k].1 ys[k].1 = false) => show res = false by
          refine R0.out (fun e => ?_)
          have h1 : (xs.map (·.1))[k]'(by simpa using hlt) = (ys.map (·.1))[k]'(by simpa using hlt2) := by simp only [e]
          simp only [List.getElem_map] at h1
          rw [sameQ_iff.2 h1] at h
          cases h)
        generalize sameQ xs[k].1 ys[k].1 = sb at *
        generalize xs[k] = X at *
        generalize ys[k] = Y at *
        obtain ⟨⟨xk, ⟨x1, x2⟩, ⟨x3, x4⟩, xs5⟩, xv⟩ := X
        obtain ⟨⟨yk, ⟨y1, y2⟩, ⟨y3, y4⟩, ys5⟩, yv⟩ := Y
        dsimp only [qz] at hu1 hu2 p0 p1 p2 p3 p4 p5 q0 q1 q2 q3 q4 q5 SQ
        obtain ⟨xo, xc, rfl⟩ := hu1.form
        obtain ⟨yo, yc, rfl⟩ := hu2.form
        have hr1 : b1 < wr.heap.size := hb1
        have hr2 : b2 < wr.heap.size := hb2
        clear hx1 hx2 hu1 hu2 e1 e2 hlm hlm2
        go_wp2_with fail
        have hba : Below wr.heap.size wr ((wr.alloc (.cells #[.int .i64 xk, .string x1, .string x2, .string x3, .string x4, .slice xo xs5.length xc] 66)).alloc (.cells #[.int .i64 yk, .string y1, .string y2, .string y3, .string y4, .slice yo ys5.length yc] 66)) := ((Below.refl _ _).alloc (Nat.le_refl _) _).alloc (by simp) _
        refine (SQ.out _ hba).mono ?_
        rintro e w2 ⟨rfl, hb2'⟩
        have hb3 := hba.trans (hb2'.mono hba.size)
        have HW2 := Lib.hid (HW.out.trans (hb3.mono HW.out.size))
        clear hb2' hb3 hba
        cases sb with
        | true =>
          have HN2 := Lib.hid (HN.out rfl)
          go_wp2
          exact ⟨⟨k + 1, by omega, by go_num, HN2, HW2⟩, by simp [intOf]; omega⟩
        | false =>
          have R := Lib.hid (HF.out rfl)
          go_wp2
          go_ret
          exact ⟨ret_b R.out.symm, HW2.out⟩
      · have R := Lib.hid (show res = true by
          have h := HK.out
          rw [List.take_of_length_le (by simp; omega), List.take_of_length_le (by have := HL.out; simp; omega)] at h
          exact R1.out h)
        go_wp2
        go_ret
        exact ⟨ret_b R.out.symm, HW.out⟩
  · have hne : ((xs.length : Int) != (ys.length : Int)) = true := by simp; omega
    have R := Lib.hid (show res = false by
      refine R0.out (fun e => hl ?_)
      have h := congrArg List.length e
      simpa using h)
    clear hl
    go_enter Tryz.func83, Tryz.ntmps83
    go_wp2
    go_ret
    exact ⟨ret_b R.out.symm, Below.refl _ _⟩
set_option maxRecDepth 100000 in
set_option maxHeartbeats 4000000 in
theorem policy_Same (v0 v1 v2 v3 u0 u1 u2 u3 : Value) (p q : Pd) (zs us : List (Qd × Value)) (w : World) (hp : PolD w v0 v1 v2 v3 p zs) (hq : PolD w u0 u1 u2 u3 q us) :
    Calls Tryz.prog 32 #[pv v0 v1 v2 v3, pv u0 u1 u2 u3] w fun e w' => e = .returned (.bool (sameD p q)) ∧ Below w.heap.size w w' := by
  have C0 := Lib.hid (fun W (hb : Below w.heap.size w W) => st_EqualB v0 u0 p.l q.l W (hp.rs.below hb) (hq.rs.below hb))
  have C1 := Lib.hid (fun W (hb : Below w.heap.size w W) => rl_EqualB v1 u1 p.g q.g W (hp.rg.below hb) (hq.rg.below hb))
  have C2 := Lib.hid (fun W (hb : Below w.heap.size w W) => rl_EqualB v2 u2 p.h q.h W (hp.rh.below hb) (hq.rh.below hb))
  have C3 := Lib.hid (fun W (hb : Below w.heap.size w W) => q_EqualFunc v3 u3 zs us W (hp.rq.below hb) (hq.rq.below hb) (fun z hz => (hp.rw z hz).below hb) (fun z hz => (hq.rw z hz).below hb))
  rw [hp.z, hq.z] at C3
  have RES := Lib.hid (show sameD p q = (decide (p.l = q.l) && (decide (p.g = q.g) && (decide (p.h = q.h) && decide (p.q = q.q)))) from rfl)
  generalize sameD p q = res at *
  generalize decide (p.l = q.l) = e0 at *
  generalize decide (p.g = q.g) = e1 at *
  generalize decide (p.h = q.h) = e2 at *
  generalize decide (p.q = q.q) = e3 at *
  obtain ⟨a0, c0, rfl⟩ := hp.rs.form
  obtain ⟨a1, c1, rfl⟩ := hp.rg.form
  obtain ⟨a2, c2, rfl⟩ := hp.rh.form
  obtain ⟨a3, c3, rfl⟩ := hp.rq.form
  obtain ⟨b0, d0, rfl⟩ := hq.rs.form
  obtain ⟨b1, d1, rfl⟩ := hq.rg.form
  obtain ⟨b2, d2, rfl⟩ := hq.rh.form
  obtain ⟨b3, d3, rfl⟩ := hq.rq.form
  have HT := Lib.hid (TwoAt.new w #[.slice a0 p.l.length c0, .slice a1 p.g.length c1, .slice a2 p.h.length c2, .slice a3 zs.length c3] #[.slice b0 q.l.length d0, .slice b1 q.g.length d1, .slice b2 q.h.length d2, .slice b3 us.length d3] 26 26)
  clear hp hq
  go_enter Tryz.func32, Tryz.ntmps32
  go_wp2_with fail
  refine (C0.out _ HT.out.low).mono ?_
  rintro e w0 ⟨rfl, hb⟩
  have HT := Lib.hid (HT.out.later hb)
  clear hb C0
  by_cases h0 : e0 = true
  case neg =>
    obtain rfl : e0 = false := nb h0
    have R := Lib.hid (show res = false by rw [RES.out]; simp)
    go_wp2
    go_ret
    exact ⟨ret_b R.out.symm, HT.out.low⟩
  subst h0
  obtain ⟨ca, fa, za⟩ := HT.out.a
  obtain ⟨cb, fb, zb⟩ := HT.out.b
  go_wp2_with fail
  refine (C1.out _ HT.out.low).mono ?_
  rintro e w1 ⟨rfl, hb⟩
  have HT := Lib.hid (HT.out.later hb)
  clear hb C1 ca fa za cb fb zb
  by_cases h1 : e1 = true
  case neg =>
    obtain rfl : e1 = false := nb h1
    have R := Lib.hid (show res = false by rw [RES.out]; simp)
    go_wp2
    go_ret
    exact ⟨ret_b R.out.symm, HT.out.low⟩
  subst h1
  obtain ⟨ca, fa, za⟩ := HT.out.a
  obtain ⟨cb, fb, zb⟩ := HT.out.b
  go_wp2_with fail
  refine (C2.out _ HT.out.low).mono ?_
  rintro e w2 ⟨rfl, hb⟩
  have HT := Lib.hid (HT.out.later hb)
  clear hb C2 ca fa za cb fb zb
  by_cases h2 : e2 = true
  case neg =>
    obtain rfl : e2 = false := nb h2
    have R := Lib.hid (show res = false by rw [RES.out]; simp)
    go_wp2
    go_ret
    exact ⟨ret_b R.out.symm, HT.out.low⟩
  subst h2
  obtain ⟨ca, fa, za⟩ := HT.out.a
  obtain ⟨cb, fb, zb⟩ := HT.out.b
  go_wp2_with fail
  refine (C3.out _ HT.out.low).mono ?_
  rintro e w3 ⟨rfl, hb⟩
  have HT := Lib.hid (HT.out.later hb)
  clear hb C3 ca fa za cb fb zb
  have R := Lib.hid (show res = e3 by rw [RES.out]; simp)
  go_wp2
  go_ret
  exact ⟨ret_b R.out.symm, HT.out.low⟩
end Go.Proofs.YtnhkgfgbhedphaaGreatDoor
namespace Go.Proofs.YtnhkgfgbhedphaaGreatDoor
open Go.RowKit Go.Shelf

set_option maxRecDepth 100000 in
set_option maxHeartbeats 8000000 in
theorem law5_PolicyTurns (v0 v1 v2 v3 : Value) (l : List St) (g h : List Rl) (qs : List Qv) (w : World) (hg : Gl w) (hp0 : PolAt w v0 v1 v2 v3 l g h qs) :
    Calls Tryz.prog 7 #[pv v0 v1 v2 v3] w fun e w' => e = .returned (.bool true) ∧ Below w.heap.size w w' := by
  have HL := Lib.hid (fun W (hb : Below w.heap.size w W) => law5_lives W (hg.below hb))
  have P := Lib.hid (fun (s : ByteArray) W (hb : Below w.heap.size w W) (hs : s.size ≤ 9223372036854775807) => policy_Parse s W (hg.below hb) hs)
  have hp : PolAt w v0 v1 v2 nilV l g h [] := ⟨hp0.rs, hp0.rg, hp0.rh, (Sl.nil w 6).a, hp0.ls, hp0.lg, hp0.lh, fun x hx => by cases hx⟩
  have HLt := Lib.hid (fun W (hb : Below w.heap.size w W) => law5_LightU v0 v1 v2 nilV l g h [] W (hp.below hb))
  obtain ⟨zs, hz1, hz2⟩ := hp.give
  obtain rfl : zs = [] := List.map_eq_nil_iff.1 hz2
  have HZ := Lib.hid (show PolD w v0 v1 v2 nilV ⟨l, g, h, []⟩ [] from hz1)
  clear hz1 hz2
  obtain ⟨a0, c0, rfl⟩ := hp.rs.form
  obtain ⟨a1, c1, rfl⟩ := hp.rg.form
  obtain ⟨a2, c2, rfl⟩ := hp.rh.form
  obtain ⟨a3, c3, rfl⟩ := hp0.rq.form
  clear hg hp hp0
  have HT := Lib.hid (show OneAt w #[.slice a0 l.length c0, .slice a1 g.length c1, .slice a2 h.length c2, .slice none 0 0] (w.alloc (.cells #[.slice a0 l.length c0, .slice a1 g.length c1, .slice a2 h.length c2, .slice none 0 0] 26)) from ⟨Blk.new w _ _, (Below.refl _ _).alloc (Nat.le_refl _) _⟩)
  have hEq := fault_eql
  go_enter Tryz.func7, Tryz.ntmps7
  go_wp2_with fail
  refine (HLt.out _ HT.out.low).mono ?_
  rintro e w8 ⟨⟨bL, rfl, hbL⟩, hb8⟩
  have HZ8 := Lib.hid (HZ.out.below HT.out.low)
  have HT8 := Lib.hid (HT.out.later hb8)
  clear hb8 HT
  have HT := HT8
  clear HT8
  cases bL with
  | false =>
    clear hbL
    obtain ⟨ca, fa, za⟩ := HT.out.a
    go_wp2_with fail
    clear ca fa za
    refine (HL.out _ HT.out.low).mono ?_
    rintro e wz ⟨rfl, hbz⟩
    have HT := Lib.hid (HT.out.later hbz)
    clear hbz
    go_wp2
    go_ret
    exact ⟨rfl, HT.out.low⟩
  | true =>
    obtain ⟨⟨l30, g30, h30, q30, l40, qU⟩, gh⟩ := hbL rfl
    have LE : LeP ⟨l, g, h, []⟩ 40 40 := leP_light (zs := []) HZ8.out l40 (fun q hq => by cases hq) gh
    have RA := Lib.hid (fun W (hb : Below w.heap.size w W) => right_any (HZ.out.below hb) (LE.mono (by decide) (Nat.le_refl _)) (show l.length ≤ 80 by omega) (show g.length ≤ 40 by omega) (show h.length ≤ 40 by omega) (show ([] : List Qd).length ≤ 100 by decide))
    have FEW := Lib.hid (show ∀ _ : (textP ⟨l, g, h, []⟩).size ≤ 3000, (turnT (linesD ⟨l, g, h, []⟩)).length ≤ 8000 from fun h3 => turn_few l30 g30 h30 rfl h3)
    clear hbL l30 g30 h30 q30 l40 qU gh LE HZ8
    obtain ⟨ca, fa, za⟩ := HT.out.a
    go_wp2_with fail
    clear ca fa za
    refine (RA.out _ HT.out.low).mono ?_
    rintro e w9 ⟨⟨bR, rfl, hbR⟩, hb9⟩
    have HT := Lib.hid (HT.out.later hb9)
    clear hb9 RA
    cases bR with
    | false =>
      clear hbR
      obtain ⟨ca, fa, za⟩ := HT.out.a
      go_wp2_with fail
      clear ca fa za
      refine (HL.out _ HT.out.low).mono ?_
      rintro e wz ⟨rfl, hbz⟩
      have HT := Lib.hid (HT.out.later hbz)
      clear hbz
      go_wp2
      go_ret
      exact ⟨rfl, HT.out.low⟩
    | true =>
      have HR := Lib.hid (hbR.1 rfl)
      clear hbR
      have PR := Lib.hid (fun W (hb : Below w.heap.size w W) => print_right (HZ.out.below hb) HR.out)
      have PT := Lib.hid (parse_turn HR.out rfl)
      have hsz := textP_size HR.out
      have ATE := Lib.hid (atT_end HR.out.ok)
      generalize textP ⟨l, g, h, []⟩ = tx at PR ATE hsz FEW
      generalize turnT (linesD ⟨l, g, h, []⟩) = tt at PT ATE FEW
      obtain ⟨ca, fa, za⟩ := HT.out.a
      go_wp2_with fail
      clear ca fa za
      refine (PR.out _ HT.out.low).mono ?_
      rintro e wA ⟨rfl, hbA⟩
      have HT := Lib.hid (HT.out.later hbA)
      clear hbA
      by_cases h3 : tx.size ≤ 3000
      · have k1 : decide ((3000 : Int) < (tx.size : Int)) = false := by (rw [decide_eq_false_iff_not]; omega)
        have FEW := Lib.hid (FEW.out h3)
        obtain ⟨ca, fa, za⟩ := HT.out.a
        go_wp2_with fail
        clear ca fa za
        refine (PR.out _ HT.out.low).mono ?_
        rintro e wB ⟨rfl, hbB⟩
        have HT := Lib.hid (HT.out.later hbB)
        clear hbB k1
        go_wp2_with fail
        go_loopw [3, 4, 28] (fun tv lv i wr => ∃ k : Nat, k ≤ tx.size ∧ i = .int .i64 k ∧ tv = .string ⟨(atT tx k).1.toArray⟩ ∧ lv = .string ⟨(atT tx k).2.toArray⟩ ∧ Hid (OneAt w #[.slice a0 l.length c0, .slice a1 g.length c1, .slice a2 h.length c2, .slice none 0 0] wr)) (fun _ _ i _ => tx.size - (intOf i).toNat)
        case atStart => exact ⟨0, by omega, rfl, rfl, rfl, HT⟩
        case round =>
          clear HT
          obtain ⟨k, hk, rfl, rfl, rfl, HT⟩ := hrel
          by_cases hlt : k < tx.size
          · obtain ⟨ca, fa, za⟩ := HT.out.a
            go_wp2_with fail
            clear ca fa za
            refine (PR.out _ HT.out.low).mono ?_
            rintro e wB ⟨rfl, hbB⟩
            have HT := Lib.hid (HT.out.later hbB)
            clear hbB
            have LN := atT_len tx k
            have z1 : (atT tx k).1.length ≤ 27000 := by omega
            have z2 : (atT tx k).2.length ≤ 27000 := by omega
            clear LN
            by_cases hc : tx[k] = 10
            · have t1 : ((tx[k].toNat : Int) != 10) = false := by rw [hc]; rfl
              have NX := Lib.hid (atT_ten hlt hc)
              clear hc
              generalize atT tx k = A at *
              go_wp2_with fail
              exact ⟨⟨k + 1, by omega, by go_num, by rw [← NX.out.1], by rw [← NX.out.2], HT⟩, by simp [intOf]; omega⟩
            · have t1 : ((tx[k].toNat : Int) != 10) = true := by
                rw [bne_iff_ne]
                intro e
                exact hc (UInt8.toNat_inj.1 (show tx[k].toNat = (10 : UInt8).toNat from by have : (10 : UInt8).toNat = 10 := rfl; omega))
              have NX := Lib.hid (atT_more hlt hc)
              have HD := Lib.hid hlt
              clear hc
              have hcn : tx[k].toNat < 256 := UInt8.toNat_lt _
              have kc := run_convert_bytes_back (P := Tryz.prog) (wB.alloc (.cells #[.int .u8 (tx[k].toNat : Int)] 5)) 59 9 5 ⟨wB.heap.size, 0, none⟩ 1 [tx[k]] Tryz.underlying59 Tryz.underlying5 Tryz.underlying9 (fun j hj => by
                have h0 : j = 0 := by simpa using hj
                subst h0
                exact cells_new wB [.int .u8 (tx[k].toNat : Int)] 5 wB.heap.size rfl 0 _ rfl)
              simp only [List.length_singleton] at kc
              generalize atT tx k = A at *
              go_wp2_with fail
              erw [kc]
              simp only [Result.andThen]
              go_wp2_with fail
              exact ⟨⟨k + 1, by omega, by go_num, by rw [← NX.out.1], by rw [← NX.out.2]; rfl, Lib.hid (HT.out.alloc _)⟩, by simp [intOf]; omega⟩
          · obtain rfl : k = tx.size := by omega
            clear hlt hk
            rw [ATE.out]
            clear ATE PR
            dsimp only
            have PT := Lib.hid (PT.out (show tt.toArray.size ≤ 8000 by rw [List.size_toArray]; exact FEW.out))
            have hq : (⟨tt.toArray⟩ : ByteArray).size ≤ 9223372036854775807 := by show tt.toArray.size ≤ _; rw [List.size_toArray]; have := FEW.out; omega
            generalize (⟨tt.toArray⟩ : ByteArray) = tq at *
            go_wp2_with fail
            have PQ := P.out tq _ HT.out.low hq
            rw [PT.out] at PQ
            refine PQ.mono ?_
            clear PQ PT
            rintro e wC ⟨y0, y1, y2, y3, ys, rfl, hpy, hbC⟩
            have HT := Lib.hid (HT.out.later hbC)
            have HY := Lib.hid hpy.pol
            obtain ⟨p0, n0, rfl⟩ := hpy.pol.rs.form
            obtain ⟨p1, n1, rfl⟩ := hpy.pol.rg.form
            obtain ⟨p2, n2, rfl⟩ := hpy.pol.rh.form
            obtain ⟨p3, n3, rfl⟩ := hpy.pol.rq.form
            have HV := Lib.hid (TwoAt.new wC #[.slice p0 l.length n0, .slice p1 g.length n1, .slice p2 h.length n2, .slice p3 ys.length n3] #[.int .i64 0, .int .i64 0, .int .i64 0] 26 48)
            have HT := Lib.hid (HT.out.later HV.out.low)
            clear hpy hbC
            dsimp only
            have SM := Lib.hid (fun W (hb : Below wC.heap.size wC W) (hb2 : Below w.heap.size w W) => policy_Same _ _ _ _ _ _ _ _ ⟨l, g, h, []⟩ ⟨l, g, h, []⟩ ys [] W (HY.out.below hb) (HZ.out.below hb2))
            rw [sameD_iff.2 (rfl : (⟨l, g, h, []⟩ : Pd) = ⟨l, g, h, []⟩)] at SM
            have hE0 := eqF_same 0 0 0
            obtain ⟨ca, fa, za⟩ := HT.out.a
            obtain ⟨cb, fb, zb⟩ := HV.out.a
            obtain ⟨cc, fc, zc⟩ := HV.out.b
            go_wp2_with fail
            clear ca fa za cb fb zb cc fc zc
            refine (SM.out _ HV.out.low HT.out.low).mono ?_
            rintro e wD ⟨rfl, hbD⟩
            have HT := Lib.hid (HT.out.later hbD)
            clear hbD SM
            go_wp2_with fail
            refine (HL.out _ HT.out.low).mono ?_
            rintro e wE ⟨rfl, hbE⟩
            have HT := Lib.hid (HT.out.later hbE)
            clear hbE
            go_wp2
            go_ret
            exact ⟨rfl, HT.out.low⟩
      · have k1 : decide ((3000 : Int) < (tx.size : Int)) = true := by (rw [decide_eq_true_iff]; omega)
        clear PT PR
        obtain ⟨ca, fa, za⟩ := HT.out.a
        go_wp2_with fail
        clear ca fa za
        refine (HL.out _ HT.out.low).mono ?_
        rintro e wz ⟨rfl, hbz⟩
        have HT := Lib.hid (HT.out.later hbz)
        clear hbz
        go_wp2
        go_ret
        exact ⟨rfl, HT.out.low⟩
end Go.Proofs.YtnhkgfgbhedphaaGreatDoor
namespace Go.Proofs.YtnhkgfgbhedphaaGreatDoor
open Go.ChangeShapes Go.WideShapes Go.ChangeAt Go.RowKit

section
variable {H : Type} {enc : TypeId × Value → H} {w : World} {base fuel n : Nat} {sp : Nat → Bool} {held : Bool} {cs : List Value} {x : DataW H × List MemPlace} {v : Value} {d : DataW H} {ps : List MemPlace}
def dStr (H : Type) (s : ByteArray) : DataW H := .lit (.string s.data.toList)
def dRl (H : Type) (r : Rl) : DataW H := .agg [dStr H r.o, dStr H r.n]
def dSt (H : Type) (s : St) : DataW H := .agg [.lit (.int .i64 s.k), dRl H s.h, dStr H s.who, dRl H s.a, dRl H s.b, dStr H s.via]
def St.fits (s : St) : Prop := s.le maxLen ∧ (Lit.int IntKind.i64 s.k).wf = true

theorem two_of (h : cs.length = 2) : ∃ a b, cs = [a, b] := by
  match cs, h with
  | [a, b], _ => exact ⟨a, b, rfl⟩
theorem trod_role (h : DataW.trod enc Tryz.prog w base sp held fuel 54 cs = some x) : ∃ r : Rl, cs = r.cells ∧ x = (dRl H r, []) ∧ r.le maxLen := by
  obtain ⟨xs, n, _, rfl, hl, hlen, hf⟩ := DataW.trod_struct Tryz.underlying54 h
  have hc : Tryz.prog.cellsOf 54 = 2 := by kernel_rfl
  have hs : Tryz.prog.cellsOf 9 = 1 := by kernel_rfl
  rw [hc] at hl
  obtain ⟨a, b, rfl⟩ := two_of hl
  have f0 : DataW.trod enc Tryz.prog w base sp held n 9 [a] = xs[0]? := by simpa [hs] using hf 0 _ rfl
  have f1 : DataW.trod enc Tryz.prog w base sp held n 9 [b] = xs[1]? := by simpa [hs] using hf 1 _ rfl
  match xs, hlen with
  | [y0, y1], _ =>
    simp only [List.getElem?_cons_zero, List.getElem?_cons_succ] at f0 f1
    obtain ⟨s0, e0, g0, l0⟩ := DataW.trod_string Tryz.underlying9 f0
    obtain ⟨s1, e1, g1, l1⟩ := DataW.trod_string Tryz.underlying9 f1
    simp only [List.cons.injEq, and_true] at e0 e1
    subst e0 e1 g0 g1
    exact ⟨⟨s0, s1⟩, rfl, rfl, l0, l1⟩
theorem nine_of (h : cs.length = 9) : ∃ a b c d e f g i j, cs = [a, b, c, d, e, f, g, i, j] := by
  match cs, h with
  | [a, b, c, d, e, f, g, i, j], _ => exact ⟨a, b, c, d, e, f, g, i, j, rfl⟩
theorem trod_stmt (h : DataW.trod enc Tryz.prog w base sp held fuel 63 cs = some x) : ∃ s : St, cs = s.cells ∧ x = (dSt H s, []) ∧ s.fits := by
  obtain ⟨xs, n, _, rfl, hl, hlen, hf⟩ := DataW.trod_struct Tryz.underlying63 h
  have hc : Tryz.prog.cellsOf 63 = 9 := by kernel_rfl
  have hr : Tryz.prog.cellsOf 54 = 2 := by kernel_rfl
  have hi : Tryz.prog.cellsOf 3 = 1 := by kernel_rfl
  have hs : Tryz.prog.cellsOf 9 = 1 := by kernel_rfl
  rw [hc] at hl
  obtain ⟨c0, c1, c2, c3, c4, c5, c6, c7, c8, rfl⟩ := nine_of hl
  have f0 : DataW.trod enc Tryz.prog w base sp held n 3 [c0] = xs[0]? := by simpa [hi] using hf 0 _ rfl
  have f1 : DataW.trod enc Tryz.prog w base sp held n 54 [c1, c2] = xs[1]? := by simpa [hr] using hf 1 _ rfl
  have f2 : DataW.trod enc Tryz.prog w base sp held n 9 [c3] = xs[2]? := by simpa [hs] using hf 2 _ rfl
  have f3 : DataW.trod enc Tryz.prog w base sp held n 54 [c4, c5] = xs[3]? := by simpa [hr] using hf 3 _ rfl
  have f4 : DataW.trod enc Tryz.prog w base sp held n 54 [c6, c7] = xs[4]? := by simpa [hr] using hf 4 _ rfl
  have f5 : DataW.trod enc Tryz.prog w base sp held n 9 [c8] = xs[5]? := by simpa [hs] using hf 5 _ rfl
  match xs, hlen with
  | [y0, y1, y2, y3, y4, y5], _ =>
    simp only [List.getElem?_cons_zero, List.getElem?_cons_succ] at f0 f1 f2 f3 f4 f5
    obtain ⟨k, e0, g0, l0⟩ := DataW.trod_int Tryz.underlying3 f0
    obtain ⟨r1, e1, g1, l1⟩ := trod_role f1
    obtain ⟨s2, e2, g2, l2⟩ := DataW.trod_string Tryz.underlying9 f2
    obtain ⟨r3, e3, g3, l3⟩ := trod_role f3
    obtain ⟨r4, e4, g4, l4⟩ := trod_role f4
    obtain ⟨s5, e5, g5, l5⟩ := DataW.trod_string Tryz.underlying9 f5
    simp only [Rl.cells, List.cons.injEq, and_true] at e0 e1 e2 e3 e4 e5
    obtain ⟨rfl, rfl⟩ := e1
    obtain ⟨rfl, rfl⟩ := e3
    obtain ⟨rfl, rfl⟩ := e4
    subst e0 e2 e5 g0 g1 g2 g3 g4 g5
    exact ⟨⟨k, r1, s2, r3, r4, s5⟩, rfl, rfl, ⟨l1, l2, l3, l4, l5⟩, l0⟩
end
end Go.Proofs.YtnhkgfgbhedphaaGreatDoor
namespace Go.Proofs.YtnhkgfgbhedphaaGreatDoor
open Go.ChangeShapes Go.WideShapes Go.ChangeAt Go.RowKit Go.Deep

theorem laid_out : laidOutB Tryz.prog = true := by kernel_rfl
end Go.Proofs.YtnhkgfgbhedphaaGreatDoor
namespace Go.Proofs.YtnhkgfgbhedphaaGreatDoor
open Go.ChangeShapes Go.WideShapes Go.ChangeAt Go.RowKit Go.Deep

section
variable {H : Type} {enc : TypeId × Value → H} {w : World} {base : Nat} {held : Bool}
theorem open_rowOf {α : Type} [Inhabited α] (cells : α → List Value) (k : Nat) (hk : 0 < k) (hlen : ∀ x, (cells x).length = k) {t e : TypeId} (ht : Tryz.prog.underlying t = some (.slice e)) (hc : Tryz.prog.cellsOf e = k) (p : α → Prop)
    (each : ∀ n cs y, DataW.trod enc Tryz.prog w base (fun _ => true) held n e cs = some y → ∃ x : α, cs = cells x ∧ p x) {fuel : Nat} {c : Value} {y : DataW H × List MemPlace}
    (hf : DataW.trod enc Tryz.prog w base (fun _ => true) held fuel t [c] = some y) : ∃ l : List α, SlA w k c l.length (l.flatMap cells) ∧ ∀ x ∈ l, p x := by
  rcases open_slice ht hf with ⟨hcs, _⟩ | ⟨a, len, cap, m, n, D, Pl, hcs, _, hl, hm, hmm, _, hx⟩
  · simp only [List.cons.injEq, and_true] at hcs
    subst hcs
    exact ⟨[], (Sl.nil _ _).a, fun s hs => by cases hs⟩
  · simp only [List.cons.injEq, and_true] at hcs
    subst hcs
    simp only [if_true] at hmm
    subst hmm
    rw [hc] at hx
    have hex : ∀ i, i < m → ∃ s : α, w.cells? base (a.add (i * k)) k = some (cells s) ∧ p s := by
      intro i hi
      obtain ⟨cs', h1, h2⟩ := hx i hi
      obtain ⟨s, rfl, hs⟩ := each _ _ _ h2
      exact ⟨s, h1, hs⟩
    obtain ⟨S, hS⟩ := choose_lt hex
    obtain ⟨b, off, spot⟩ := a
    by_cases h0 : 0 < len
    · have hk0 : 0 < (cells (S 0)).length := by rw [hlen]; exact hk
      have c0 := (World.cells?_some (hS 0 (by omega)).1).2.2 0 hk
      rw [List.getElem?_eq_getElem hk0] at c0
      have hspot : spot = none := by simpa [Addr.add] using World.cell?_spot c0
      subst hspot
      have hlenl : ((List.range len).map S).length = len := by simp
      have hcell : ∀ j u, (((List.range len).map S).flatMap cells)[j]? = some u → w.cell? ⟨b, off + j, none⟩ = some u := by
        intro j u hu
        have hj : j < len * k := by
          have := (List.getElem?_eq_some_iff.1 hu).1
          rwa [flat_len cells k hlen, hlenl] at this
        have hf9 : j % k < k := Nat.mod_lt _ hk
        have hi : j / k < len := Nat.div_lt_of_lt_mul (by rwa [Nat.mul_comm])
        have e : j = j / k * k + j % k := by rw [Nat.mul_comm]; exact (Nat.div_add_mod j k).symm
        rw [e, flat_get cells k hlen _ (j / k) (j % k) hf9 (S (j / k)) (by simp [hi])] at hu
        have h1 := (World.cells?_some (hS (j / k) (by omega)).1).2.2 (j % k) hf9
        rw [add_add, add_plain, ← e] at h1
        exact h1.trans hu
      refine ⟨(List.range len).map S, .inl ?_, fun s hs => ?_⟩
      · rw [hlenl]
        refine ⟨by rw [flat_len cells k hlen, hlenl], by omega, .inr ⟨b, off, m, rfl, hl, hm, ?_, hcell⟩⟩
        rw [add_add, add_plain] at c0
        exact World.block_lt_of_cell? _ _ c0
      · obtain ⟨i, hi, rfl⟩ := List.mem_map.1 hs
        exact (hS i (by have := List.mem_range.1 hi; omega)).2
    · have hl0 : len = 0 := by omega
      subst hl0
      exact ⟨[], .inr ⟨⟨_, _, rfl⟩, rfl, rfl⟩, fun s hs => by cases hs⟩

theorem maxLen_eq : maxLen = 9223372036854775807 := by decide
theorem le_max {s : St} (h : s.fits) : s.le 9223372036854775807 := by have := h.1; rwa [maxLen_eq] at this
theorem rle_max {r : Rl} (h : r.le maxLen) : r.le 9223372036854775807 := by rwa [maxLen_eq] at h
instance : Inhabited Rl := ⟨noR⟩
theorem open_stsC {fuel : Nat} {c : Value} {y : DataW H × List MemPlace} (hf : DataW.trod enc Tryz.prog w base (fun _ => true) held fuel 22 [c] = some y) :
    ∃ l : List St, SlA w 9 c l.length (l.flatMap St.cells) ∧ allLe l 9223372036854775807 :=
  open_rowOf St.cells 9 (by decide) St.cells_len Tryz.underlying22 (by kernel_rfl) (fun s => s.le 9223372036854775807)
    (fun _ _ _ h => by obtain ⟨s, e, _, hs⟩ := trod_stmt h; exact ⟨s, e, le_max hs⟩) hf
theorem open_rls {fuel : Nat} {c : Value} {y : DataW H × List MemPlace} (hf : DataW.trod enc Tryz.prog w base (fun _ => true) held fuel 23 [c] = some y) :
    ∃ l : List Rl, SlA w 2 c l.length (l.flatMap Rl.cells) ∧ ∀ x ∈ l, x.le 9223372036854775807 :=
  open_rowOf Rl.cells 2 (by decide) Rl.cells_len Tryz.underlying23 (by kernel_rfl) (fun s => s.le 9223372036854775807)
    (fun _ _ _ h => by obtain ⟨s, e, _, hs⟩ := trod_role h; exact ⟨s, e, rle_max hs⟩) hf
theorem strs_flat (l : List ByteArray) : (l.flatMap fun s => [Value.string s]) = strs l := by
  induction l with
  | nil => rfl
  | cons a r ih => rw [List.flatMap_cons, ih]; rfl
theorem open_strsC {fuel : Nat} {c : Value} {y : DataW H × List MemPlace} (hf : DataW.trod enc Tryz.prog w base (fun _ => true) held fuel 27 [c] = some y) :
    ∃ l : List ByteArray, SlA w 1 c l.length (strs l) ∧ ∀ x ∈ l, x.size ≤ 9223372036854775807 := by
  obtain ⟨l, h1, h2⟩ := open_rowOf (fun s : ByteArray => [Value.string s]) 1 (by decide) (fun _ => rfl) Tryz.underlying27 (by kernel_rfl) (fun s => s.size ≤ 9223372036854775807)
    (fun _ cs _ h => by obtain ⟨s, e, _, hs⟩ := DataW.trod_string Tryz.underlying9 h; exact ⟨s, e, by rwa [maxLen_eq] at hs⟩) hf
  exact ⟨l, by rwa [strs_flat] at h1, h2⟩

theorem six_of {cs : List Value} (h : cs.length = 6) : ∃ a b c d e f, cs = [a, b, c, d, e, f] := by
  match cs, h with
  | [a, b, c, d, e, f], _ => exact ⟨a, b, c, d, e, f, rfl⟩
theorem trod_query {fuel : Nat} {cs : List Value} {x : DataW H × List MemPlace} (h : DataW.trod enc Tryz.prog w base (fun _ => true) held fuel 66 cs = some x) : ∃ q : Qv, cs = q.cells ∧ q.ok w := by
  obtain ⟨xs, n, _, rfl, hl, hlen, hf⟩ := DataW.trod_struct Tryz.underlying66 h
  have hc : Tryz.prog.cellsOf 66 = 6 := by kernel_rfl
  have hr : Tryz.prog.cellsOf 54 = 2 := by kernel_rfl
  have hi : Tryz.prog.cellsOf 3 = 1 := by kernel_rfl
  have hs : Tryz.prog.cellsOf 27 = 1 := by kernel_rfl
  rw [hc] at hl
  obtain ⟨c0, c1, c2, c3, c4, c5, rfl⟩ := six_of hl
  have f0 : DataW.trod enc Tryz.prog w base (fun _ => true) held n 3 [c0] = xs[0]? := by simpa [hi] using hf 0 _ rfl
  have f1 : DataW.trod enc Tryz.prog w base (fun _ => true) held n 54 [c1, c2] = xs[1]? := by simpa [hr] using hf 1 _ rfl
  have f2 : DataW.trod enc Tryz.prog w base (fun _ => true) held n 54 [c3, c4] = xs[2]? := by simpa [hr] using hf 2 _ rfl
  have f3 : DataW.trod enc Tryz.prog w base (fun _ => true) held n 27 [c5] = xs[3]? := by simpa [hs] using hf 3 _ rfl
  match xs, hlen with
  | [y0, y1, y2, y3], _ =>
    simp only [List.getElem?_cons_zero, List.getElem?_cons_succ] at f0 f1 f2 f3
    obtain ⟨k, e0, _, _⟩ := DataW.trod_int Tryz.underlying3 f0
    obtain ⟨r1, e1, _, l1⟩ := trod_role f1
    obtain ⟨r2, e2, _, l2⟩ := trod_role f2
    obtain ⟨ss, s3, l3⟩ := open_strsC f3
    simp only [Rl.cells, List.cons.injEq, and_true] at e0 e1 e2
    obtain ⟨rfl, rfl⟩ := e1
    obtain ⟨rfl, rfl⟩ := e2
    subst e0
    exact ⟨⟨k, r1, r2, c5⟩, rfl, rle_max l1, rle_max l2, ss, s3, l3⟩
theorem open_qs {fuel : Nat} {c : Value} {y : DataW H × List MemPlace} (hf : DataW.trod enc Tryz.prog w base (fun _ => true) held fuel 24 [c] = some y) :
    ∃ l : List Qv, SlA w 6 c l.length (l.flatMap Qv.cells) ∧ ∀ x ∈ l, x.ok w :=
  open_rowOf Qv.cells 6 (by decide) Qv.cells_len Tryz.underlying24 (by kernel_rfl) (fun q => q.ok w) (fun _ _ _ h => trod_query h) hf
theorem four_of {cs : List Value} (h : cs.length = 4) : ∃ a b c d, cs = [a, b, c, d] := by
  match cs, h with
  | [a, b, c, d], _ => exact ⟨a, b, c, d, rfl⟩
set_option maxRecDepth 100000 in
theorem open_pol {r : Reach} {b0 : Nat} {v : Value} {d : DataW H} {ps : List MemPlace} (hval : Value.okWide Tryz.prog w r b0 26 v) (hd : DataW.Trod enc Tryz.prog w base (fun _ => true) held 26 v d ps) :
    ∃ v0 v1 v2 v3 l g h qs, v = pv v0 v1 v2 v3 ∧ PolAt w v0 v1 v2 v3 l g h qs := by
  obtain ⟨cs, rfl, _⟩ := okWide_struct Tryz.underlying26 hval
  obtain ⟨fuel, hf⟩ := hd
  obtain ⟨xs, n, _, _, hl, hlen, hf'⟩ := DataW.trod_struct Tryz.underlying26 hf
  have hc : Tryz.prog.cellsOf 26 = 4 := by kernel_rfl
  have h0 : Tryz.prog.cellsOf 22 = 1 := by kernel_rfl
  have h1 : Tryz.prog.cellsOf 23 = 1 := by kernel_rfl
  have h2 : Tryz.prog.cellsOf 24 = 1 := by kernel_rfl
  rw [hc] at hl
  obtain ⟨c0, c1, c2, c3, hcs⟩ := four_of hl
  rw [hcs] at hf'
  have f0 : DataW.trod enc Tryz.prog w base (fun _ => true) held n 22 [c0] = xs[0]? := by simpa [h0] using hf' 0 _ rfl
  have f1 : DataW.trod enc Tryz.prog w base (fun _ => true) held n 23 [c1] = xs[1]? := by simpa [h1] using hf' 1 _ rfl
  have f2 : DataW.trod enc Tryz.prog w base (fun _ => true) held n 23 [c2] = xs[2]? := by simpa [h1] using hf' 2 _ rfl
  have f3 : DataW.trod enc Tryz.prog w base (fun _ => true) held n 24 [c3] = xs[3]? := by simpa [h2] using hf' 3 _ rfl
  match xs, hlen with
  | [y0, y1, y2, y3], _ =>
    simp only [List.getElem?_cons_zero, List.getElem?_cons_succ] at f0 f1 f2 f3
    obtain ⟨l, s0, l0⟩ := open_stsC f0
    obtain ⟨g, s1, l1⟩ := open_rls f1
    obtain ⟨h, s2, l2⟩ := open_rls f2
    obtain ⟨qs, s3, l3⟩ := open_qs f3
    refine ⟨c0, c1, c2, c3, l, g, h, qs, ?_, ⟨s0, s1, s2, s3, l0, l1, l2, l3⟩⟩
    obtain ⟨cl⟩ := cs
    simp only [Value.cells] at hcs
    have : cl = [c0, c1, c2, c3] := by simpa using hcs
    rw [this]
end
end Go.Proofs.YtnhkgfgbhedphaaGreatDoor
