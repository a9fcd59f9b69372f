/- Light of queries and policies, with the lengths of the queries' roles (turned by gen_lights.py). A policy of few and short texts: matrix.Of in either case; crupperlaw41.small and lives. crupperlaw41.lives. Package state's Reaches, and the reference's MayCome and Reaches. The reference's Reaches. The statement HighHolds: the walk of the law (printed by gen_law12h.py). What holds in the least, or the greatest, state is so in every state that is reached; what may not be in none. The rows of a policy that may be are short. matrix.Facts: what of rows holds (printed by gen_matfacts.py). -/
import Derived.Test.YtcmdhfccdkjenaaGreatDoorPart6
import Derived.Test.YtcmdhfccdkjenaaGreatDoorPart19
import Derived.Test.YtcmdhfccdkjenaaGreatDoorPart17
import Derived.Test.YtcmdhfccdkjenaaGreatDoorPart18
import Derived.Test.YtcmdhfccdkjenaaGreatDoorPart10
namespace Go.Proofs.YtcmdhfccdkjenaaGreatDoor
open Go.RowKit Go.Shelf

def Qv.okS (q : Qv) (w : World) : Prop := q.okN 40 w ∧ q.a.le 40 ∧ q.b.le 40
def LightQS (q : Qv) (w : World) (e : Ending) : Prop := ∃ b, e = .returned (.bool b) ∧ (b = true → q.okS w)
theorem okS_back {q : Qv} {w W : World} (h : q.ok w) (hb : Below w.heap.size w W) (h' : q.okS W) : q.okS w := ⟨okN_back h hb h'.1, h'.2⟩
def LightV (w : World) (l : List St) (g h : List Rl) (qs : List Qv) (e : Ending) : Prop := ∃ b, e = .returned (.bool b) ∧ (b = true → (l.length ≤ 30 ∧ g.length ≤ 30 ∧ h.length ≤ 30 ∧ qs.length ≤ 30 ∧ allLe l 40 ∧ ∀ q ∈ qs, q.okS w) ∧ ∀ x ∈ g ++ h, x.le 40)
set_option maxRecDepth 100000 in
set_option maxHeartbeats 1000000 in
theorem law4_LightS (q : Qv) (w : World) (hq : q.ok w) : Calls Tryz.prog 26 #[qv q] w fun e w' => LightQS q w e ∧ Below w.heap.size w w' := by
 obtain ⟨ha, hb, ss, hs, hl⟩ := hq
 obtain ⟨k, ⟨x1, x2⟩, ⟨x3, x4⟩, wv⟩ := q
 have HS := Lib.hid (fun W h => law1_Light wv ss W h hl)
 have HQ := Lib.hid (fun (h : ss.length ≤ 40) (h4 : [x1, x2, x3, x4].length ≤ 40 ∧ ∀ x ∈ [x1, x2, x3, x4], x.size ≤ 40) => show (⟨k, ⟨x1, x2⟩, ⟨x3, x4⟩, wv⟩ : Qv).okS w from ⟨⟨ha, hb, ss, hs, h, hl⟩, ⟨h4.2 _ (by simp), h4.2 _ (by simp)⟩, ⟨h4.2 _ (by simp), h4.2 _ (by simp)⟩⟩)
 have HW := Lib.hid hs
 have H4 := Lib.hid (fun W h => law1_LightT (.slice (some ⟨w.heap.size + 1, 0, none⟩) 4 4) [x1, x2, x3, x4] W h (by
  intro s hs; simp at hs; rcases hs with rfl | rfl | rfl | rfl
  ·exact ha.1
  ·exact ha.2
  ·exact hb.1
  ·exact hb.2))
 obtain ⟨wo, wc, rfl⟩ := hs.form
 clear ha hb hl hs
 have HB := Lib.hid ((Below.refl _ w).alloc (Nat.le_refl _) (.cells #[.int .i64 k, .string x1, .string x2, .string x3, .string x4, .slice wo ss.length wc] 45))
 have HB2 := Lib.hid (HB.out.alloc HB.out.size (.cells #[.string x1, .string x2, .string x3, .string x4] 9))
 have S4 := Lib.hid (Sl.new (w.alloc (.cells #[.int .i64 k, .string x1, .string x2, .string x3, .string x4, .slice wo ss.length wc] 45)) [.string x1, .string x2, .string x3, .string x4] 9 1 4 (w.heap.size + 1) (by simp) rfl (by simp [maxLen]))
 go_enter Tryz.func26, Tryz.ntmps26
 go_wp2_with fail
 refine (HS.out _ (HW.out.below HB.out)).mono ?_
 rintro e w1 ⟨⟨b1, rfl, hb1⟩, rfl⟩
 have HB1 := Lib.hid hb1
 clear hb1
 cases b1 with
 | false =>
  go_wp2
  go_ret
  exact ⟨⟨false, rfl, fun h => by cases h⟩, HB.out⟩
 | true =>
  go_wp2_with fail
  refine (H4.out _ S4.out.a).mono ?_
  rintro e w1 ⟨⟨b2, rfl, hb2⟩, rfl⟩
  have HB4 := Lib.hid hb2
  clear hb2
  go_wp2
  go_ret
  exact ⟨⟨b2, rfl, fun h => HQ.out (HB1.out (by first | rfl | trivial)) (HB4.out h)⟩, HB2.out⟩
set_option maxRecDepth 100000 in
set_option maxHeartbeats 8000000 in
theorem law5_LightS (v0 v1 v2 v3 : Value) (l : List St) (g h : List Rl) (qs : List Qv) (w : World) (hp : PolAt w v0 v1 v2 v3 l g h qs) :
  Calls Tryz.prog 15 #[pv v0 v1 v2 v3] w fun e w' => LightV w l g h qs e ∧ Below w.heap.size w w' := by
 have HP := Lib.hid hp
 have hm0 := hp.rs.max
 have hm1 := hp.rg.max
 have hm2 := hp.rh.max
 have hm3 := hp.rq.max
 obtain ⟨a0, c0, rfl⟩ := hp.rs.form
 obtain ⟨a1, c1, rfl⟩ := hp.rg.form
 obtain ⟨a2, c2, rfl⟩ := hp.rh.form
 obtain ⟨a3, c3, rfl⟩ := hp.rq.form
 have HL := Lib.hid (fun k (hk : k < l.length) W => law3_Light l[k] W (hp.ls _ (List.getElem_mem hk)))
 have T0 := Lib.hid (show OneAt w #[.slice a0 l.length c0, .slice a1 g.length c1, .slice a2 h.length c2, .slice a3 qs.length c3] (w.alloc (.cells #[.slice a0 l.length c0, .slice a1 g.length c1, .slice a2 h.length c2, .slice a3 qs.length c3] 26)) from ⟨Blk.new w _ _, (Below.refl _ _).alloc (Nat.le_refl _) _⟩)
 clear hp
 go_enter Tryz.func15, Tryz.ntmps15
 by_cases t0 : 30 < l.length
 ·have d0 : decide ((30 : Int) < (l.length : Int)) = true := by (rw [decide_eq_true_iff]; omega)
  go_wp2
  go_ret
  exact ⟨⟨false, rfl, (fun h => by cases h)⟩, T0.out.low⟩
 have d0 : decide ((30 : Int) < (l.length : Int)) = false := by (rw [decide_eq_false_iff_not]; omega)
 by_cases t1 : 30 < g.length
 ·have d1 : decide ((30 : Int) < (g.length : Int)) = true := by (rw [decide_eq_true_iff]; omega)
  go_wp2
  go_ret
  exact ⟨⟨false, rfl, (fun h => by cases h)⟩, T0.out.low⟩
 have d1 : decide ((30 : Int) < (g.length : Int)) = false := by (rw [decide_eq_false_iff_not]; omega)
 by_cases t2 : 30 < h.length
 ·have d2 : decide ((30 : Int) < (h.length : Int)) = true := by (rw [decide_eq_true_iff]; omega)
  go_wp2
  go_ret
  exact ⟨⟨false, rfl, (fun h => by cases h)⟩, T0.out.low⟩
 have d2 : decide ((30 : Int) < (h.length : Int)) = false := by (rw [decide_eq_false_iff_not]; omega)
 by_cases t3 : 30 < qs.length
 ·have d3 : decide ((30 : Int) < (qs.length : Int)) = true := by (rw [decide_eq_true_iff]; omega)
  go_wp2
  go_ret
  exact ⟨⟨false, rfl, (fun h => by cases h)⟩, T0.out.low⟩
 have d3 : decide ((30 : Int) < (qs.length : Int)) = false := by (rw [decide_eq_false_iff_not]; omega)
 go_wp2_with fail
 clear d0 d1 d2 d3
 go_loopw [34] (fun i wr => ∃ k : Nat, k ≤ l.length ∧ i = .int .i64 k ∧ Hid (OneAt w #[.slice a0 l.length c0, .slice a1 g.length c1, .slice a2 h.length c2, .slice a3 qs.length c3] wr) ∧ Hid (∀ j (hj : j < l.length), j < k → l[j].le 40)) (fun i _ => l.length - (intOf i).toNat)
 case atStart => exact ⟨0, by omega, rfl, T0, Lib.hid (fun _ _ h => absurd h (by omega))⟩
 case round =>
  obtain ⟨k, hk, rfl, TR, HJ⟩ := hrel
  by_cases hlt : k < l.length
  ·obtain ⟨b1, o1, e1, he1, hc1, hm1', hb1, hx1⟩ := HP.out.rs.pos (by omega)
   simp only [Value.slice.injEq, true_and] at he1
   obtain ⟨rfl, rfl⟩ := he1
   obtain ⟨p0, p1, p2, p3, p4, p5, p6, p7, p8⟩ := st_cell (w := wr) (fun j u hu => (TR.out.low.cell (p := ⟨b1, o1 + j, none⟩) hb1).trans (hx1 j u hu)) k hlt
   have hbr : b1 < wr.heap.size := Nat.lt_of_lt_of_le hb1 TR.out.low.size
   have HLk := Lib.hid (fun W => HL.out k hlt W)
   clear hx1
   go_wp2_with fail
   refine (HLk.out _).mono ?_
   rintro e w2 ⟨b, rfl, hle, hb2⟩
   have HLE := Lib.hid hle
   have T2 := Lib.hid ((TR.out.alloc _).later hb2)
   clear hle hb2
   cases b with
   | false =>
    go_wp2
    go_ret
    exact ⟨⟨false, rfl, (fun h => by cases h)⟩, T2.out.low⟩
   | true =>
    have HJ2 : Hid (∀ j (hj : j < l.length), j < k + 1 → l[j].le 40) := Lib.hid (fun j hj hjk => by
     by_cases h : j < k
     ·exact HJ.out j hj h
     ·obtain rfl : j = k := by omega
      exact HLE.out (by first | rfl | trivial))
    go_wp2
    exact ⟨⟨k + 1, by omega, by go_num, T2, HJ2⟩, by simp [intOf]; omega⟩
  ·have HJ3 := Lib.hid (show allLe l 40 from fun x hx => by
    obtain ⟨j, hj, rfl⟩ := List.getElem_of_mem hx
    exact HJ.out j hj (by omega))
   obtain ⟨ca, fa, za⟩ := TR.out.a
   clear HJ HL
   go_wp2_with fail
   go_loopw [45] (fun i wr => ∃ k : Nat, k ≤ qs.length ∧ i = .int .i64 k ∧ Hid (OneAt w #[.slice a0 l.length c0, .slice a1 g.length c1, .slice a2 h.length c2, .slice a3 qs.length c3] wr) ∧ Hid (∀ j (hj : j < qs.length), j < k → qs[j].okS w)) (fun i _ => qs.length - (intOf i).toNat)
   case atStart => exact ⟨0, by omega, rfl, TR, Lib.hid (fun _ _ h => absurd h (by omega))⟩
   case round =>
    clear TR ca fa za
    obtain ⟨k, hk, rfl, TR, HQJ⟩ := hrel
    by_cases hlt : k < qs.length
    ·obtain ⟨b1, o1, e1, he1, hc1, hm1', hb1, hx1⟩ := HP.out.rq.pos (by omega)
     simp only [Value.slice.injEq, true_and] at he1
     obtain ⟨rfl, rfl⟩ := he1
     obtain ⟨p0, p1, p2, p3, p4, p5⟩ := q_cell (w := wr) (fun j u hu => (TR.out.low.cell (p := ⟨b1, o1 + j, none⟩) hb1).trans (hx1 j u hu)) k hlt
     have hbr : b1 < wr.heap.size := Nat.lt_of_lt_of_le hb1 TR.out.low.size
     have hqo := HP.out.lq _ (List.getElem_mem hlt)
     have QL := Lib.hid (fun W (hb : Below w.heap.size w W) => law4_LightS qs[k] W (hqo.below hb))
     have QB := Lib.hid (fun (W : World) (hb : Below w.heap.size w W) (h : qs[k].okS W) => okS_back hqo hb h)
     have HQ2 : Hid (qs[k].okS w → ∀ j (hj : j < qs.length), j < k + 1 → qs[j].okS w) := Lib.hid (fun hpk j hj hjk => by
      by_cases h : j < k
      ·exact HQJ.out j hj h
      ·obtain rfl : j = k := by omega
       exact hpk)
     obtain ⟨wo, wc, hw5⟩ : ∃ a c, qs[k].w = .slice a ((hqo.2.2).choose).length c := ((hqo.2.2).choose_spec.1).form
     generalize (hqo.2.2).choose.length = nw at hw5
     have hek : qs[k] = ⟨qs[k].k, ⟨qs[k].a.o, qs[k].a.n⟩, ⟨qs[k].b.o, qs[k].b.n⟩, qs[k].w⟩ := rfl
     clear hx1 hqo
     generalize qs[k] = x at *
     obtain ⟨xk, ⟨x1, x2⟩, ⟨x3, x4⟩, xw⟩ := x
     dsimp only at hw5
     subst hw5
     clear hek
     have T2 := Lib.hid (TR.out.alloc (.cells #[.int .i64 xk, .string x1, .string x2, .string x3, .string x4, .slice wo nw wc] 45))
     go_wp2_with fail
     refine (QL.out _ T2.out.low).mono ?_
     rintro e w2 ⟨⟨b, rfl, hbq⟩, hb2⟩
     have T3 := Lib.hid (T2.out.later hb2)
     have HBQ := Lib.hid (fun h => HQ2.out (QB.out _ T2.out.low (hbq h)))
     clear hb2 hbq
     cases b with
     | false =>
      go_wp2
      go_ret
      exact ⟨⟨false, rfl, (fun h => by cases h)⟩, T3.out.low⟩
     | true =>
      go_wp2
      exact ⟨⟨k + 1, by omega, by go_num, T3, Lib.hid (HBQ.out (by first | rfl | trivial))⟩, by simp [intOf]; omega⟩
    ·have HQA := Lib.hid (show ∀ q ∈ qs, q.okS w from fun q hq => by
      obtain ⟨j, hj, rfl⟩ := List.getElem_of_mem hq
      exact HQJ.out j hj (by omega))
     obtain ⟨inf, hi, hz0, hz1, hz2⟩ := info_parts rl_info'
     have HINF := Lib.hid hi
     have T2 := TR.out.drew
     have hown : (wr.drew.alloc (.cells #[] 28)).ownsRow wr.heap.size 28 2 (.slice (some ⟨wr.heap.size, 0, none⟩) 0 0) 0 [] := World.ownsRow_made wr.drew #[] 0 (Nat.le_refl _) (Nat.zero_le _) (by simp)
     have hlow : Below wr.heap.size wr (wr.drew.alloc (.cells #[] 28)) := (below_drew (Below.refl _ _)).alloc (Nat.le_refl _) _
     have T4 := TR.out.later hlow
     obtain ⟨ca, fa, za⟩ := TR.out.a
     have hza : w.heap.size < wr.heap.size := za
     clear hi fa za
     go_wp2_with fail
     go_region_held3 (fun W => ∀ o, W.cell? ⟨w.heap.size, o, none⟩ = (#[.slice a0 l.length c0, .slice a1 g.length c1, .slice a2 h.length c2, .slice a3 qs.length c3] : Array Value)[o]?)
      (first | exact T2.a.1 | exact T4.a.1 | exact T5.a.1 | exact T6.a.1 | go_keep)
      (first
       | (refine step_row rfl _ _ 23 rfl wr.heap.size 28 inf _ 2 32 Tryz.underlying23 HINF.out hz0 hz1 hz2 (Nat.le_of_ble_eq_true rfl) rfl (Nat.le_of_ble_eq_true rfl) _ 0 [] rfl hown _ g.length _ rfl (HP.out.rg.below T4.low) (rls_one _) ?_ hlow.size ?_; omega; intro a5 c5 w5 hown5 hg5; have hb5 := below_own hlow hown hg5 hlow.size (Nat.le_refl _); have T5 := TR.out.later hb5)
       | (refine step_row rfl _ _ 23 rfl wr.heap.size 28 inf _ 2 32 Tryz.underlying23 HINF.out hz0 hz1 hz2 (Nat.le_of_ble_eq_true rfl) rfl (Nat.le_of_ble_eq_true rfl) _ (0 + g.length) _ rfl hown5 _ h.length _ rfl (HP.out.rh.below T5.low) (rls_one _) ?_ hb5.size ?_; omega; intro a6 c6 w6 hown6 hg6; have hb6 := below_own hb5 hown5 hg6 hb5.size (Nat.le_refl _); have T6 := TR.out.later hb6; obtain ⟨n6, hn6⟩ : ∃ n6, n6 = 0 + g.length + h.length := ⟨_, rfl⟩; rw [← hn6] at hown6 ⊢; have HN6 := Lib.hid hn6; clear hn6))
     have HS6 := Lib.hid (show Sl w6 2 (.slice a6 n6 c6) n6 ((g ++ h).flatMap Rl.cells) by have := Sl.of_own hown6; rw [rl_flat]; simpa using this)
     have HLe := Lib.hid (show ∀ x ∈ g ++ h, x.le 9223372036854775807 from fun x hx => by
      rcases List.mem_append.1 hx with hx | hx
      ·exact HP.out.lg x hx
      ·exact HP.out.lh x hx)
     have HN := Lib.hid (show n6 = (g ++ h).length by rw [HN6.out, List.length_append]; omega)
     have HB6 := Lib.hid T6.low
     have hn6m : n6 ≤ 1000 := by have := HN6.out; omega
     have HGH : ∃ gh, Hid (g ++ h = gh) := ⟨_, Lib.hid rfl⟩
     obtain ⟨gh, HGH⟩ := HGH
     rw [HGH.out] at HS6 HLe HN
     clear hown5 hown6 hg5 hg6 hb5 hb6 T2 T4 T5 T6 hlow hown ca hza TR HN6
     go_wp2_with fail
     go_loopw [61] (fun i wr => ∃ k : Nat, k ≤ n6 ∧ i = .int .i64 k ∧ Hid (Below w6.heap.size w6 wr) ∧ Hid (∀ j (hj : j < gh.length), j < k → gh[j].le 40)) (fun i _ => n6 - (intOf i).toNat)
     case atStart => exact ⟨0, by omega, rfl, Lib.hid (Below.refl _ _), Lib.hid (fun _ _ h => absurd h (by omega))⟩
     case round =>
      obtain ⟨k, hk, rfl, HB, HRJ⟩ := hrel
      by_cases hlt : k < n6
      ·obtain ⟨b1, o1, e1, he1, hc1, hm1', hb1, hx1⟩ := HS6.out.pos (by omega)
       simp only [Value.slice.injEq, true_and] at he1
       obtain ⟨rfl, rfl⟩ := he1
       have hlt2 : k < gh.length := by have := HN.out; omega
       obtain ⟨p0, p1⟩ := rl_cell (w := wr) (fun j u hu => (HB.out.cell (p := ⟨b1, o1 + j, none⟩) hb1).trans (hx1 j u hu)) k hlt2
       have hbr : b1 < wr.heap.size := Nat.lt_of_lt_of_le hb1 HB.out.size
       have hle := HLe.out _ (List.getElem_mem hlt2)
       have HR2 : Hid (gh[k].le 40 → ∀ j (hj : j < gh.length), j < k + 1 → gh[j].le 40) := Lib.hid (fun hpk j hj hjk => by
        by_cases h : j < k
        ·exact HRJ.out j hj h
        ·obtain rfl : j = k := by omega
         exact hpk)
       clear hx1
       generalize gh[k] = x at *
       obtain ⟨x1, x2⟩ := x
       have hz1' : x1.size ≤ 9223372036854775807 := hle.1
       have hz2' : x2.size ≤ 9223372036854775807 := hle.2
       have HB2 := Lib.hid (HB.out.alloc HB.out.size (.cells #[.string x1, .string x2] 28))
       clear hle
       by_cases q1 : 40 < x1.size
       ·have d1 : decide ((40 : Int) < (x1.size : Int)) = true := by (rw [decide_eq_true_iff]; omega)
        clear q1
        go_wp2
        go_ret
        exact ⟨⟨false, rfl, (fun h => by cases h)⟩, HB6.out.trans (HB2.out.mono HB6.out.size)⟩
       have d1 : decide ((40 : Int) < (x1.size : Int)) = false := by (rw [decide_eq_false_iff_not]; omega)
       have Q1 := Lib.hid q1
       clear q1
       by_cases q2 : 40 < x2.size
       ·have d2 : decide ((40 : Int) < (x2.size : Int)) = true := by (rw [decide_eq_true_iff]; omega)
        clear q2
        go_wp2
        go_ret
        exact ⟨⟨false, rfl, (fun h => by cases h)⟩, HB6.out.trans (HB2.out.mono HB6.out.size)⟩
       have d2 : decide ((40 : Int) < (x2.size : Int)) = false := by (rw [decide_eq_false_iff_not]; omega)
       have HR3 := Lib.hid (HR2.out ⟨by have := Q1.out; show x1.size ≤ 40; omega, by show x2.size ≤ 40; omega⟩)
       clear q2
       go_wp2
       exact ⟨⟨k + 1, by omega, by go_num, HB2, HR3⟩, by simp [intOf]; omega⟩
      ·have HR4 : Hid (∀ x ∈ g ++ h, x.le 40) := Lib.hid (by
        rw [HGH.out]
        intro x hx
        obtain ⟨j, hj, rfl⟩ := List.getElem_of_mem hx
        exact HRJ.out j hj (by have := HN.out; omega))
       go_wp2
       go_ret
       exact ⟨⟨true, rfl, (fun _ => ⟨⟨by omega, by omega, by omega, by omega, HJ3.out, HQA.out⟩, HR4.out⟩)⟩, HB6.out.trans (HB.out.mono HB6.out.size)⟩
end Go.Proofs.YtcmdhfccdkjenaaGreatDoor
namespace Go.Proofs.YtcmdhfccdkjenaaGreatDoor
open Go.RowKit Go.Shelf

structure MatQ (w : World) (v0 v1 v2 v3 : Value) (l : List St) (g h : List Rl) (qs : List Qv) (F : Qv → List ByteArray) : Prop where
 at_ : PolAt w v0 v1 v2 v3 l g h qs
 hl : l.length ≤ 30
 hg : g.length ≤ 30
 hh : h.length ≤ 30
 hq : qs.length ≤ 30
 l40 : allLe l 40
 gh : ∀ x ∈ g ++ h, x.le 40
 qle : ∀ q ∈ qs, q.a.le 40 ∧ q.b.le 40
 hF : WhoF w qs F
 uz : ∀ q ∈ qs, ∀ s ∈ F q, s.size ≤ 9223372036854775807
 hT : TB w
section
variable {w W : World} {v0 v1 v2 v3 : Value} {l : List St} {g h : List Rl} {qs : List Qv} {F : Qv → List ByteArray}
theorem MatQ.below (P : MatQ w v0 v1 v2 v3 l g h qs F) (hb : Below w.heap.size w W) : MatQ W v0 v1 v2 v3 l g h qs F :=
 ⟨P.at_.below hb, P.hl, P.hg, P.hh, P.hq, P.l40, P.gh, P.qle, P.hF.below hb, P.uz, P.hT.below hb⟩
theorem MatQ.polx (P : MatQ w v0 v1 v2 v3 l g h qs F) (hr : RightP l g h qs F) : PolX w v0 v1 v2 v3 l g h qs F (newB (allPrins l g h qs F)) (newB (allNames l g h qs)) :=
 hr.polx P.at_ P.hT P.hl P.hg P.hh P.hq P.hF P.l40
theorem matq_Right (P : MatQ w v0 v1 v2 v3 l g h qs F) :
  Calls Tryz.prog 94 #[pv v0 v1 v2 v3] w fun e w' => RightI l g h qs F e ∧ Below w.heap.size w w' :=
 policy_RightL v0 v1 v2 v3 l g h qs w P.at_ (by have := P.hl; omega) (by have := P.hg; omega) (by have := P.hh; omega) (by have := P.hq; omega) (fun x hx => (P.l40 x hx).mono (by decide)) (fun x hx => (P.gh x hx).mono (by decide))
  (fun x hx => ⟨(P.qle x hx).1.mono (by decide), (P.qle x hx).2.mono (by decide)⟩) F P.hF P.uz
theorem matq_Ref (P : MatQ w v0 v1 v2 v3 l g h qs F) :
  Calls Tryz.prog 16 #[pv v0 v1 v2 v3] w fun e w' => RightI l g h qs F e ∧ Below w.heap.size w w' :=
 ref5_RightL v0 v1 v2 v3 l g h qs w P.at_ P.hl P.hg P.hh P.hq P.l40 F P.hF P.uz
theorem matq_Of (P : MatQ w v0 v1 v2 v3 l g h qs F) (hr : RightP l g h qs F) (ps es : List Pr) (hps : LeastS (minS l h) (fun r x => (r, x) ∈ ps)) (hes : LeastS (maxS l g (newB (allPrins l g h qs F)) (newB (allNames l g h qs))) (fun r x => (r, x) ∈ es)) :
  Calls Tryz.prog 49 #[pv v0 v1 v2 v3] w fun e w' => ∃ (v : Value) (R : List MV), e = .returned (.tuple #[v, .int .i64 0]) ∧ Sl w' 6 v R.length (R.flatMap MV.cells) ∧ RowsIn w' R ∧ R.map MV.s = (allR (newB (allPrins l g h qs F)) (newB (allNames l g h qs))).map (rowM ps es (freshB (newB (allPrins l g h qs F)))) ∧ Below w.heap.size w w' :=
 matrix_Of (P.polx hr) hr.good.ps hr.good.ns (fun W hb => (matq_Right (P.below hb)).mono (by
  rintro e w' ⟨⟨b, rfl, hi⟩, hb'⟩
  rw [hi.2 hr]
  exact ⟨rfl, hb'⟩)) ps es hps hes
set_option maxRecDepth 100000 in
set_option maxHeartbeats 4000000 in
theorem law41_small (P : MatQ w v0 v1 v2 v3 l g h qs F) :
  Calls Tryz.prog 50 #[pv v0 v1 v2 v3] w fun e w' => (∃ b, e = .returned (.bool b) ∧ (b = true → RightP l g h qs F ∧ (newB (allPrins l g h qs F)).length ≤ 5 ∧ (newB (allNames l g h qs)).length ≤ 4)) ∧ Below w.heap.size w w' := by
 have HP := Lib.hid P
 have LP := Lib.hid (fun W hb => law5_LightR v0 v1 v2 v3 l g h qs W (P.at_.below (w' := W) hb))
 have RT := Lib.hid (fun W hb => matq_Ref (P.below (W := W) hb))
 obtain ⟨a0, c0, rfl⟩ := P.at_.rs.form
 obtain ⟨a1, c1, rfl⟩ := P.at_.rg.form
 obtain ⟨a2, c2, rfl⟩ := P.at_.rh.form
 obtain ⟨a3, c3, rfl⟩ := P.at_.rq.form
 have HT := Lib.hid (show OneAt w #[.slice a0 l.length c0, .slice a1 g.length c1, .slice a2 h.length c2, .slice a3 qs.length c3] (w.alloc (.cells #[.slice a0 l.length c0, .slice a1 g.length c1, .slice a2 h.length c2, .slice a3 qs.length c3] 26)) from ⟨Blk.new w _ _, (Below.refl _ _).alloc (Nat.le_refl _) _⟩)
 clear P
 go_enter Tryz.func50, Tryz.ntmps50
 go_wp2_with fail
 refine (LP.out _ HT.out.low).mono ?_
 rintro e w1 ⟨⟨bp, rfl, _⟩, hb1⟩
 have HT := Lib.hid (HT.out.later hb1)
 clear hb1 LP
 cases bp with
 | false =>
  go_wp2_with fail
  go_ret
  exact ⟨⟨false, rfl, fun h => by cases h⟩, HT.out.low⟩
 | true =>
 obtain ⟨ca, fa, za⟩ := HT.out.a
 go_wp2_with fail
 refine (RT.out _ HT.out.low).mono ?_
 rintro e w2 ⟨⟨br, rfl, hri⟩, hb2⟩
 have HT := Lib.hid (HT.out.later hb2)
 have HRI := Lib.hid hri
 clear hri hb2 RT ca fa za
 cases br with
 | false =>
  go_wp2_with fail
  go_ret
  exact ⟨⟨false, rfl, fun h => by cases h⟩, HT.out.low⟩
 | true =>
 have hrp := HRI.out.1 (by first | rfl | trivial)
 have HRP := Lib.hid hrp
 have PR := Lib.hid (fun W (hb : Below w.heap.size w W) => ref5_PrinsX ((HP.out.below hb).polx hrp))
 have PN := Lib.hid (fun W (hb : Below w.heap.size w W) => ref5_NamesX ((HP.out.below hb).polx hrp))
 clear HRI hrp
 obtain ⟨PS, hPS⟩ : ∃ x, newB (allPrins l g h qs F) = x := ⟨_, rfl⟩
 obtain ⟨NS, hNS⟩ : ∃ x, newB (allNames l g h qs) = x := ⟨_, rfl⟩
 rw [hPS] at PR
 rw [hNS] at PN
 have EP := Lib.hid hPS
 have EN := Lib.hid hNS
 clear hPS hNS
 obtain ⟨ca, fa, za⟩ := HT.out.a
 go_wp2_with fail
 refine (PR.out _ HT.out.low).mono ?_
 rintro e w3 ⟨vp, rfl, ho3, hb3⟩
 obtain ⟨pa, pc, rfl⟩ := own_form ho3
 have HT := Lib.hid (HT.out.later hb3)
 clear ho3 hb3 PR ca fa za
 by_cases h6 : PS.length ≤ 5
 ·have d6 : decide ((PS.length : Int) ≤ 5) = true := by rw [decide_eq_true_iff]; omega
  obtain ⟨ca, fa, za⟩ := HT.out.a
  go_wp2_with fail
  refine (PN.out _ HT.out.low).mono ?_
  rintro e w4 ⟨vn, rfl, ho4, hb4⟩
  obtain ⟨na, nc, rfl⟩ := own_form ho4
  have HT := Lib.hid (HT.out.later hb4)
  clear ho4 hb4 PN ca fa za
  by_cases h4 : NS.length ≤ 4
  ·have d4 : decide ((NS.length : Int) ≤ 4) = true := by rw [decide_eq_true_iff]; omega
   have H5 := Lib.hid h6
   have H4 := Lib.hid h4
   go_wp2_with fail
   go_ret
   exact ⟨⟨true, rfl, fun _ => ⟨HRP.out, by rw [EP.out]; exact H5.out, by rw [EN.out]; exact H4.out⟩⟩, HT.out.low⟩
  ·have d4 : decide ((NS.length : Int) ≤ 4) = false := by rw [decide_eq_false_iff_not]; omega
   go_wp2_with fail
   go_ret
   exact ⟨⟨false, rfl, fun h => by cases h⟩, HT.out.low⟩
 ·have d6 : decide ((PS.length : Int) ≤ 5) = false := by rw [decide_eq_false_iff_not]; omega
  go_wp2_with fail
  go_ret
  exact ⟨⟨false, rfl, fun h => by cases h⟩, HT.out.low⟩
end
theorem ex41_row {ps es : List Pr} (h : LeastS (minS [s12] [r12]) (fun r x => (r, x) ∈ ps)) (h' : LeastS (maxS [s12] [r12] P12 N12) (fun r x => (r, x) ∈ es)) : rowM ps es (freshB P12) r12 = ⟨r12, [b13], [b13], false, 1⟩ := by
 rw [ex13_min] at h
 unfold rowM
 rw [ex13_m h, ex12_p h', fresh12]
 kernel_rfl
theorem ex41_line : lineM ⟨r12, [b13], [b13], false, 1⟩ = ⟨#[65, 46, 114, 32, 99, 108, 111, 115, 101, 100, 32, 66]⟩ := by kernel_rfl
theorem ex41_right : RightP [s12] [r12] [r12] [] F12 := by
 have h1 : ∀ x ∈ [s12], rightS x = true := fun x hx => by rw [List.mem_singleton.1 hx]; exact ex12_right
 have h2 : ∀ x ∈ [r12] ++ [r12], isRole x = true := fun x hx => by
  simp only [List.cons_append, List.nil_append, List.mem_cons, List.not_mem_nil, or_false, or_self] at hx
  rw [hx]; kernel_rfl
 exact ⟨h1, h2, fun _ h => (by cases h), by kernel_rfl, by kernel_rfl, by kernel_rfl, by kernel_rfl⟩
theorem ex41_in {w : World} {a0 a1 a2 : Nat} (hT : TB w) (h1 : Sl w 9 (.slice (some ⟨a0, 0, none⟩) 1 1) 1 ([s12].flatMap St.cells)) (h2 : Sl w 2 (.slice (some ⟨a1, 0, none⟩) 1 1) 1 ([r12].flatMap Rl.cells)) (h3 : Sl w 2 (.slice (some ⟨a2, 0, none⟩) 1 1) 1 ([r12].flatMap Rl.cells)) :
  MatQ w (.slice (some ⟨a0, 0, none⟩) 1 1) (.slice (some ⟨a1, 0, none⟩) 1 1) (.slice (some ⟨a2, 0, none⟩) 1 1) (.slice none 0 0) [s12] [r12] [r12] [] F12 := by
 have hle : ∀ s ∈ [s12], s.le 40 := fun s hs => by
  rw [List.mem_singleton.1 hs]
  simp only [s12, r12, St.le, Rl.le, noR, ByteArray.size]; decide
 have hr : r12.le 40 := ⟨by decide, by decide⟩
 have hr1 : ∀ x ∈ [r12], x.le 9223372036854775807 := fun x hx => by rw [List.mem_singleton.1 hx]; exact hr.mono (by decide)
 exact ⟨⟨h1.a, h2.a, h3.a, (Sl.nil _ _).a, fun s hs => (hle s hs).mono (by decide), hr1, hr1, fun _ h => (by cases h)⟩, by decide, by decide, by decide, by decide, hle, fun x hx => by
  simp only [List.cons_append, List.nil_append, List.mem_cons, List.not_mem_nil, or_false, or_self] at hx
  rw [hx]; exact hr, fun _ h => (by cases h), fun _ h => (by cases h), fun _ h => (by cases h), hT⟩
end Go.Proofs.YtcmdhfccdkjenaaGreatDoor
namespace Go.Proofs.YtcmdhfccdkjenaaGreatDoor
open Go.RowKit Go.Shelf

theorem ex41_fits {x : MV} (h : x.s = ⟨r12, [b13], [b13], false, 1⟩) : x.fits := by
 have hb : ∀ s ∈ [b13], s.size ≤ 40 := fun s hs => by rw [List.mem_singleton.1 hs]; decide
 refine ⟨?_, ?_, ?_, ?_, ?_⟩ <;> rw [h]
 ·exact ⟨by decide, by decide⟩
 ·exact hb
 ·exact hb
 ·decide
 ·decide
structure Ex41R (w : World) (v : Value) (R : List MV) : Prop where
 sl : Sl w 6 v R.length (R.flatMap MV.cells)
 rows : RowsIn w R
 two : R.length = 2
 one : ∀ x ∈ R, x.s.r = r12 → x.s = ⟨r12, [b13], [b13], false, 1⟩
 ex : ∃ x ∈ R, x.s.r = r12
theorem Ex41R.below {w w' : World} {v : Value} {R : List MV} (h : Ex41R w v R) (hb : Below w.heap.size w w') : Ex41R w' v R := ⟨h.sl.below hb, h.rows.below hb, h.two, h.one, h.ex⟩
theorem ex41_Of {w : World} {a0 a1 a2 : Nat} (hT : TB w) (h1 : Sl w 9 (.slice (some ⟨a0, 0, none⟩) 1 1) 1 ([s12].flatMap St.cells)) (h2 : Sl w 2 (.slice (some ⟨a1, 0, none⟩) 1 1) 1 ([r12].flatMap Rl.cells)) (h3 : Sl w 2 (.slice (some ⟨a2, 0, none⟩) 1 1) 1 ([r12].flatMap Rl.cells)) :
  Calls Tryz.prog 49 #[pv (.slice (some ⟨a0, 0, none⟩) 1 1) (.slice (some ⟨a1, 0, none⟩) 1 1) (.slice (some ⟨a2, 0, none⟩) 1 1) (.slice none 0 0)] w fun e w' => ∃ v R, e = .returned (.tuple #[v, .int .i64 0]) ∧ Ex41R w' v R ∧ Below w.heap.size w w' := by
 obtain ⟨ps, hps⟩ := least_ex (minS [s12] [r12])
 obtain ⟨es, hes⟩ := least_ex (maxS [s12] [r12] P12 N12)
 have e1 : newB (allPrins [s12] [r12] [r12] [] F12) = P12 := by kernel_rfl
 have e2 : newB (allNames [s12] [r12] [r12] []) = N12 := by kernel_rfl
 have hr := ex41_row hps hes
 have := matq_Of (ex41_in hT h1 h2 h3) ex41_right ps es hps (by rw [e1, e2]; exact hes)
 rw [e1, e2] at this
 refine this.mono ?_
 rintro e w' ⟨v, R, rfl, hs, hrow, hmap, hb⟩
 refine ⟨v, R, rfl, ⟨hs, hrow, ?_, ?_, ?_⟩, hb⟩
 ·have := congrArg List.length hmap
  rw [List.length_map, List.length_map] at this
  rw [this]; rfl
 ·intro x hx hxr
  have hm : x.s ∈ (allR P12 N12).map (rowM ps es (freshB P12)) := by rw [← hmap]; exact List.mem_map.2 ⟨x, hx, rfl⟩
  obtain ⟨r, _, hrx⟩ := List.mem_map.1 hm
  have hrr : r = r12 := by rw [← hxr, ← hrx]; rfl
  rw [← hrx, hrr]
  exact hr
 ·have hm : rowM ps es (freshB P12) r12 ∈ R.map MV.s := by
   rw [hmap]
   exact List.mem_map.2 ⟨r12, by unfold allR P12 N12 r12; simp, rfl⟩
  obtain ⟨x, hx, hxe⟩ := List.mem_map.1 hm
  exact ⟨x, hx, by rw [hxe]; rfl⟩
set_option maxRecDepth 100000 in
set_option maxHeartbeats 8000000 in
theorem law41_lives (w : World) (hT : TB w) : Calls Tryz.prog 48 #[] w fun e w' => e = .returned (.bool true) ∧ Below w.heap.size w w' := by
 have HTB := Lib.hid hT
 clear hT
 go_enter Tryz.func48, Tryz.ntmps48
 go_wp2_with fail
 obtain ⟨wb, hwb⟩ : ∃ V, V = ((((w.alloc (.cells #[.string ⟨#[65]⟩, .string ⟨#[114]⟩] 28)).alloc (.cells #[.int .i64 1, .string ⟨#[65]⟩, .string ⟨#[114]⟩, .string ⟨#[66]⟩, .string emp, .string emp, .string emp, .string emp, .string emp] 35)).alloc (.cells #[.string ⟨#[65]⟩, .string ⟨#[114]⟩] 28)).alloc (.cells #[.string ⟨#[65]⟩, .string ⟨#[114]⟩] 28)) := ⟨_, rfl⟩
 have FV := five_at w (.cells #[.string ⟨#[65]⟩, .string ⟨#[114]⟩] 28) (.cells #[.int .i64 1, .string ⟨#[65]⟩, .string ⟨#[114]⟩, .string ⟨#[66]⟩, .string emp, .string emp, .string emp, .string emp, .string emp] 35) (.cells #[.string ⟨#[65]⟩, .string ⟨#[114]⟩] 28) (.cells #[.string ⟨#[65]⟩, .string ⟨#[114]⟩] 28) (.cells #[] 28)
 rw [← hwb] at FV
 have hlow : Below w.heap.size w wb := by rw [hwb]; exact ((((Below.refl _ _).alloc (Nat.le_refl _) _).alloc (by simp) _).alloc (by simp; omega) _).alloc (by simp; omega) _
 have hbx : Below wb.heap.size wb (wb.alloc (.cells #[] 28)) := (Below.refl _ _).alloc (Nat.le_refl _) _
 have HR := Lib.hid (show Blk wb w.heap.size #[.string ⟨#[65]⟩, .string ⟨#[114]⟩] by rw [hwb]; exact (((Blk.new w _ _).alloc _).alloc _).alloc _)
 have HS1 := Lib.hid (show Sl wb 9 (.slice (some ⟨w.heap.size + 1, 0, none⟩) 1 1) 1 ([s12].flatMap St.cells) by
  rw [hwb]
  exact ((Sl.new (w.alloc (.cells #[.string ⟨#[65]⟩, .string ⟨#[114]⟩] 28)) ([s12].flatMap St.cells) 35 9 1 (w.heap.size + 1) (by simp) rfl (by decide)).below ((Below.refl _ _).alloc (Nat.le_refl _) _)).below ((Below.refl _ _).alloc (Nat.le_refl _) _))
 have HS2 := Lib.hid (show Sl wb 2 (.slice (some ⟨w.heap.size + 1 + 1, 0, none⟩) 1 1) 1 ([r12].flatMap Rl.cells) by
  rw [hwb]
  exact (Sl.new ((w.alloc (.cells #[.string ⟨#[65]⟩, .string ⟨#[114]⟩] 28)).alloc (.cells #[.int .i64 1, .string ⟨#[65]⟩, .string ⟨#[114]⟩, .string ⟨#[66]⟩, .string emp, .string emp, .string emp, .string emp, .string emp] 35)) ([r12].flatMap Rl.cells) 28 2 1 (w.heap.size + 1 + 1) (by simp) rfl (by decide)).below ((Below.refl _ _).alloc (Nat.le_refl _) _))
 have HS3 := Lib.hid (show Sl wb 2 (.slice (some ⟨w.heap.size + 1 + 1 + 1, 0, none⟩) 1 1) 1 ([r12].flatMap Rl.cells) by
  rw [hwb]
  exact Sl.new (((w.alloc (.cells #[.string ⟨#[65]⟩, .string ⟨#[114]⟩] 28)).alloc (.cells #[.int .i64 1, .string ⟨#[65]⟩, .string ⟨#[114]⟩, .string ⟨#[66]⟩, .string emp, .string emp, .string emp, .string emp, .string emp] 35)).alloc (.cells #[.string ⟨#[65]⟩, .string ⟨#[114]⟩] 28)) ([r12].flatMap Rl.cells) 28 2 1 (w.heap.size + 1 + 1 + 1) (by simp) rfl (by decide))
 have OF := Lib.hid (ex41_Of (HTB.out.below hlow) HS1.out HS2.out HS3.out)
 have HB := Lib.hid hlow
 rw [← hwb]
 clear hwb FV hlow hbx HS1 HS2 HS3
 refine OF.out.mono ?_
 rintro e w1 ⟨v, R, rfl, hx, hb1⟩
 have HX := Lib.hid hx
 have HR := Lib.hid (HR.out.below hb1)
 have HB := Lib.hid (HB.out.trans (hb1.mono HB.out.size))
 obtain ⟨va, vc, rfl⟩ := hx.sl.form
 clear hx hb1 OF
 obtain ⟨cr, fr, zr⟩ := HR.out
 go_wp2_with fail
 refine (mat_Find (.slice va R.length vc) R r12 w1 HX.out.sl.a HX.out.rows.form).mono ?_
 rintro e w2 ⟨hf, hb2⟩
 have HX := Lib.hid (HX.out.below hb2)
 have HB := Lib.hid (HB.out.trans (hb2.mono HB.out.size))
 clear hb2 cr fr zr
 rcases hf with ⟨_, hn⟩ | ⟨x, hx, hxr, rfl⟩
 ·obtain ⟨x, hx, hxr⟩ := HX.out.ex
  exact absurd hxr (hn x hx)
 have hxs := HX.out.one x hx hxr
 have hok := HX.out.rows.ok x hx
 have hfm := HX.out.rows.form x hx
 have hba : Below w2.heap.size w2 (w2.alloc (.cells #[.string x.s.r.o, .string x.s.r.n, x.lv, x.hv, .bool x.s.op, .int .i64 x.s.k] 77)) := (Below.refl _ _).alloc (Nat.le_refl _) _
 have LN := Lib.hid (mat_Line x _ (hok.below hba) (ex41_fits hxs))
 have hle : lineM x.s = ⟨#[65, 46, 114, 32, 99, 108, 111, 115, 101, 100, 32, 66]⟩ := by rw [hxs]; exact ex41_line
 rw [hle] at LN
 clear hle
 have HB3 := Lib.hid (HB.out.trans (hba.mono HB.out.size))
 obtain ⟨⟨⟨x1, x2⟩, x3, x4, x5, x6⟩, x7, x8⟩ := x
 obtain ⟨⟨f1, f2, f3, e1⟩, ⟨f4, f5, f6, e2⟩⟩ := hfm
 dsimp only at e1 e2
 subst e1 e2
 have HW := Lib.hid (show Blk (w2.alloc (.cells #[.string x1, .string x2, .slice f1 f2 f3, .slice f4 f5 f6, .bool x5, .int .i64 x6] 77)) w2.heap.size #[.string x1, .string x2, .slice f1 f2 f3, .slice f4 f5 f6, .bool x5, .int .i64 x6] from Blk.new _ _ _)
 clear hx hxr hxs hok hba
 have h2i : ((R.length : Int) == 2) = true := by rw [HX.out.two]; rfl
 go_wp2_with fail
 refine LN.out.mono ?_
 rintro e w3 ⟨rfl, hb3⟩
 have HB := Lib.hid (HB3.out.trans (hb3.mono HB3.out.size))
 clear hb3 LN HB3
 go_wp2
 go_ret
 exact ⟨by first | rfl | simp, HB.out⟩
end Go.Proofs.YtcmdhfccdkjenaaGreatDoor
namespace Go.Proofs.YtcmdhfccdkjenaaGreatDoor
open Go.RowKit Go.Shelf

theorem cOk_no1 {l : List St} {g : List Rl} {s : St} (h : rightS s = false) : cOk l g s = false := by unfold cOk; rw [h]; rfl
theorem cOk_eq {l : List St} {g : List Rl} {s : St} (h : rightS s = true) : cOk l g s = (hasS l s || !hasR g s.h) := by unfold cOk; rw [h]; rfl

end Go.Proofs.YtcmdhfccdkjenaaGreatDoor
namespace Go.Proofs.YtcmdhfccdkjenaaGreatDoor
open Go.RowKit Go.Shelf

set_option maxRecDepth 100000 in
set_option maxHeartbeats 4000000 in
theorem ref10_Reaches (v0 v1 v2 v3 vc : Value) (l m : List St) (g h : List Rl) (qs : List Qv) (w : World) (hp : PolAt w v0 v1 v2 v3 l g h qs) (hc : SlA w 9 vc m.length (m.flatMap St.cells)) (hm : allLe m 4294967) :
  Calls Tryz.prog 20 #[pv v0 v1 v2 v3, vc] w fun e w' => e = .returned (.bool (reachS l g h m)) ∧ Below w.heap.size w w' := by
 have HP := Lib.hid hp
 have HC := Lib.hid hc
 have hmaxm := hc.max
 have hmaxl := hp.rs.max
 obtain ⟨a0, c0, rfl⟩ := hp.rs.form
 obtain ⟨a1, c1, rfl⟩ := hp.rg.form
 obtain ⟨a2, c2, rfl⟩ := hp.rh.form
 obtain ⟨a3, c3, rfl⟩ := hp.rq.form
 obtain ⟨ac, cc, rfl⟩ := hc.form
 have HT := Lib.hid (show OneAt w #[.slice a0 l.length c0, .slice a1 g.length c1, .slice a2 h.length c2, .slice a3 qs.length c3] (w.alloc (.cells #[.slice a0 l.length c0, .slice a1 g.length c1, .slice a2 h.length c2, .slice a3 qs.length c3] 26)) from ⟨Blk.new w _ _, (Below.refl _ _).alloc (Nat.le_refl _) _⟩)
 have RI := Lib.hid (fun k (hk : k < m.length) W => ref3_Right m[k] W (hm _ (List.getElem_mem hk)))
 have SI := Lib.hid (fun x W (hb : Below w.heap.size w W) => ref3_Has (.slice a0 l.length c0) l x W (hp.rs.below hb))
 have MI := Lib.hid (fun k (hk : k < m.length) W (hb : Below w.heap.size w W) => ref5_Has (.slice a1 g.length c1) g m[k].h W (hp.rg.below hb))
 have EN := Lib.hid (fun k (hk : k < m.length) (h : cOk l g m[k] = false) => all_no hk h)
 have EE := Lib.hid (fun (h : ∀ j (hj : j < m.length), cOk l g m[j] = true) => all_end' h)
 have HH := Lib.hid (fun x W (hb : Below w.heap.size w W) => ref5_Has (.slice a2 h.length c2) h x W (hp.rh.below hb))
 have HM := Lib.hid (fun x W (hb : Below w.heap.size w W) => ref3_Has (.slice ac m.length cc) m x W (hc.below hb))
 have NY := Lib.hid (fun k (hk : k < l.length) (hh : stays h m l[k] = true) => any_yes hk hh)
 have NE := Lib.hid (fun (hh : ∀ j (hj : j < l.length), stays h m l[j] = false) => any_end hh)
 unfold reachS
 generalize m.all (cOk l g) = r1 at EN EE ⊢
 generalize l.any (stays h m) = r2 at NY NE ⊢
 clear hp hc hm
 go_enter Tryz.func20, Tryz.ntmps20
 go_wp2_with fail
 go_loopw [11] (fun i wr => ∃ k : Nat, k ≤ m.length ∧ i = .int .i64 k ∧ Hid (OneAt w #[.slice a0 l.length c0, .slice a1 g.length c1, .slice a2 h.length c2, .slice a3 qs.length c3] wr) ∧ Hid (∀ j (hj : j < m.length), j < k → cOk l g m[j] = true)) (fun i _ => m.length - (intOf i).toNat)
 case atStart => exact ⟨0, by omega, rfl, HT, Lib.hid (fun _ _ h => absurd h (by omega))⟩
 case round =>
  clear HT
  obtain ⟨k, hk, rfl, HT, HJ⟩ := hrel
  by_cases hlt : k < m.length
  ·obtain ⟨b1, o1, e1, he1, hc1, hm1, hb1, hx1⟩ := HC.out.pos (by omega)
   simp only [Value.slice.injEq, true_and] at he1
   obtain ⟨rfl, rfl⟩ := he1
   obtain ⟨p0, p1, p2, p3, p4, p5, p6, p7, p8⟩ := st_cell (w := wr) (fun j u hu => (HT.out.low.cell (p := ⟨b1, o1 + j, none⟩) hb1).trans (hx1 j u hu)) k hlt
   have hbr : b1 < wr.heap.size := Nat.lt_of_lt_of_le hb1 HT.out.low.size
   have RK := Lib.hid (fun W => RI.out k hlt W)
   have SK := Lib.hid (fun W hb => SI.out m[k] W hb)
   have MK := Lib.hid (fun W hb => MI.out k hlt W hb)
   have ENk := Lib.hid (fun h => EN.out k hlt h)
   have K1 := Lib.hid (fun (hh : rightS m[k] = false) => cOk_no1 (l := l) (g := g) hh)
   have K2 := Lib.hid (fun (hh : rightS m[k] = true) => cOk_eq (l := l) (g := g) hh)
   have HJ2 : Hid (cOk l g m[k] = true → ∀ j (hj : j < m.length), j < k + 1 → cOk l g m[j] = true) := Lib.hid (fun hpk j hj hjk => by
    by_cases h : j < k
    ·exact HJ.out j hj h
    ·obtain rfl : j = k := by omega
     exact hpk)
   have hek : m[k] = ⟨m[k].k, ⟨m[k].h.o, m[k].h.n⟩, m[k].who, ⟨m[k].a.o, m[k].a.n⟩, ⟨m[k].b.o, m[k].b.n⟩, m[k].via⟩ := rfl
   clear hx1
   generalize cOk l g m[k] = ck at ENk K1 K2 HJ2
   generalize m[k] = x at *
   obtain ⟨xk, ⟨x1, x2⟩, xw, ⟨x3, x4⟩, ⟨x5, x6⟩, xv⟩ := x
   clear hek
   generalize rightS ⟨xk, ⟨x1, x2⟩, xw, ⟨x3, x4⟩, ⟨x5, x6⟩, xv⟩ = rr at RK MK K1 K2
   generalize hasS l ⟨xk, ⟨x1, x2⟩, xw, ⟨x3, x4⟩, ⟨x5, x6⟩, xv⟩ = rs at SK K2
   generalize hasR g _ = rg at MK K2
   have HT1 := Lib.hid (HT.out.alloc (.cells #[.int .i64 xk, .string x1, .string x2, .string xw, .string x3, .string x4, .string x5, .string x6, .string xv] 35))
   have HBK := Lib.hid (Blk.new wr #[.int .i64 xk, .string x1, .string x2, .string xw, .string x3, .string x4, .string x5, .string x6, .string xv] 35)
   go_wp2_with fail
   refine (RK.out _).mono ?_
   rintro e w2 ⟨rfl, hb2⟩
   have HT2 := Lib.hid (HT1.out.later hb2)
   have HBK2 := Lib.hid (HBK.out.below hb2)
   obtain ⟨ca, fa, za⟩ := HT2.out.a
   obtain ⟨cx, fx, zx⟩ := HBK2.out
   clear hb2
   cases rr with
   | false =>
    have R := Lib.hid (ENk.out (K1.out rfl))
    go_wp2
    go_ret
    exact ⟨ret_b (by rw [R.out]; rfl), HT2.out.low⟩
   | true =>
    have K3 := Lib.hid (K2.out rfl)
    clear K1 K2
    go_wp2_with fail
    refine (SK.out _ HT2.out.low).mono ?_
    rintro e w3 ⟨rfl, hb3⟩
    have HT3 := Lib.hid (HT2.out.later hb3)
    have HBK3 := Lib.hid (HBK2.out.below hb3)
    obtain ⟨ca, fa, za⟩ := HT3.out.a
    obtain ⟨cx, fx, zx⟩ := HBK3.out
    clear hb3
    cases rs with
    | true =>
     have HJ3 := Lib.hid (HJ2.out (by rw [K3.out]; rfl))
     go_wp2
     exact ⟨⟨k + 1, by omega, by go_num, HT3, HJ3⟩, by simp [intOf]; omega⟩
    | false =>
     go_wp2_with fail
     refine (MK.out _ HT3.out.low).mono ?_
     rintro e w4 ⟨rfl, hb4⟩
     have HT4 := Lib.hid (HT3.out.later hb4)
     clear hb4
     cases rg with
     | true =>
      have R := Lib.hid (ENk.out (by rw [K3.out]; rfl))
      go_wp2
      go_ret
      exact ⟨ret_b (by rw [R.out]; rfl), HT4.out.low⟩
     | false =>
      have HJ3 := Lib.hid (HJ2.out (by rw [K3.out]; rfl))
      go_wp2
      exact ⟨⟨k + 1, by omega, by go_num, HT4, HJ3⟩, by simp [intOf]; omega⟩
  ·have R := Lib.hid (EE.out (fun j hj => HJ.out j hj (by omega)))
   obtain ⟨ca, fa, za⟩ := HT.out.a
   clear EN EE RI SI MI HJ
   go_wp2_with fail
   clear ca fa za
   go_loopw [34] (fun i wr => ∃ k : Nat, k ≤ l.length ∧ i = .int .i64 k ∧ Hid (OneAt w #[.slice a0 l.length c0, .slice a1 g.length c1, .slice a2 h.length c2, .slice a3 qs.length c3] wr) ∧ Hid (∀ j (hj : j < l.length), j < k → stays h m l[j] = false)) (fun i _ => l.length - (intOf i).toNat)
   case atStart => exact ⟨0, by omega, rfl, HT, Lib.hid (fun _ _ h => absurd h (by omega))⟩
   case round =>
    clear HT
    obtain ⟨k, hk, rfl, HT, HJ⟩ := hrel
    by_cases hlt : k < l.length
    ·obtain ⟨b1, o1, e1, he1, hc1, hm1, hb1, hx1⟩ := HP.out.rs.pos (by omega)
     simp only [Value.slice.injEq, true_and] at he1
     obtain ⟨rfl, rfl⟩ := he1
     obtain ⟨p0, p1, p2, p3, p4, p5, p6, p7, p8⟩ := st_cell (w := wr) (fun j u hu => (HT.out.low.cell (p := ⟨b1, o1 + j, none⟩) hb1).trans (hx1 j u hu)) k hlt
     have hbr : b1 < wr.heap.size := Nat.lt_of_lt_of_le hb1 HT.out.low.size
     have HK := Lib.hid (fun W hb => HH.out l[k].h W hb)
     have MK := Lib.hid (fun W hb => HM.out l[k] W hb)
     have NYk := Lib.hid (fun hh => NY.out k hlt hh)
     have ST := Lib.hid (show stays h m l[k] = (hasR h l[k].h && !hasS m l[k]) from rfl)
     have HJ2 : Hid (stays h m l[k] = false → ∀ j (hj : j < l.length), j < k + 1 → stays h m l[j] = false) := Lib.hid (fun hpk j hj hjk => by
      by_cases h : j < k
      ·exact HJ.out j hj h
      ·obtain rfl : j = k := by omega
       exact hpk)
     have hek : l[k] = ⟨l[k].k, ⟨l[k].h.o, l[k].h.n⟩, l[k].who, ⟨l[k].a.o, l[k].a.n⟩, ⟨l[k].b.o, l[k].b.n⟩, l[k].via⟩ := rfl
     clear hx1
     generalize stays h m l[k] = ck at NYk ST HJ2
     generalize l[k] = x at *
     obtain ⟨xk, ⟨x1, x2⟩, xw, ⟨x3, x4⟩, ⟨x5, x6⟩, xv⟩ := x
     clear hek
     generalize hasS m ⟨xk, ⟨x1, x2⟩, xw, ⟨x3, x4⟩, ⟨x5, x6⟩, xv⟩ = rs at MK ST
     generalize hasR h _ = rh at HK ST
     have HT1 := Lib.hid (HT.out.alloc (.cells #[.int .i64 xk, .string x1, .string x2, .string xw, .string x3, .string x4, .string x5, .string x6, .string xv] 35))
     have HBK := Lib.hid (Blk.new wr #[.int .i64 xk, .string x1, .string x2, .string xw, .string x3, .string x4, .string x5, .string x6, .string xv] 35)
     obtain ⟨ca, fa, za⟩ := HT.out.a
     go_wp2_with fail
     refine (HK.out _ HT1.out.low).mono ?_
     rintro e w2 ⟨rfl, hb2⟩
     have HT2 := Lib.hid (HT1.out.later hb2)
     have HBK2 := Lib.hid (HBK.out.below hb2)
     clear hb2 ca fa za
     cases rh with
     | false =>
      have HJ3 := Lib.hid (HJ2.out (by rw [ST.out]; rfl))
      go_wp2
      exact ⟨⟨k + 1, by omega, by go_num, HT2, HJ3⟩, by simp [intOf]; omega⟩
     | true =>
      obtain ⟨cx, fx, zx⟩ := HBK2.out
      go_wp2_with fail
      refine (MK.out _ HT2.out.low).mono ?_
      rintro e w3 ⟨rfl, hb3⟩
      have HT3 := Lib.hid (HT2.out.later hb3)
      clear hb3 cx fx zx
      cases rs with
      | true =>
       have HJ3 := Lib.hid (HJ2.out (by rw [ST.out]; rfl))
       go_wp2
       exact ⟨⟨k + 1, by omega, by go_num, HT3, HJ3⟩, by simp [intOf]; omega⟩
      | false =>
       have R2 := Lib.hid (NYk.out (by rw [ST.out]; rfl))
       go_wp2
       go_ret
       exact ⟨ret_b (by rw [R.out, R2.out]; rfl), HT3.out.low⟩
    ·have R2 := Lib.hid (NE.out (fun j hj => HJ.out j hj (by omega)))
     go_wp2
     go_ret
     exact ⟨ret_b (by rw [R.out, R2.out]; rfl), HT.out.low⟩
end Go.Proofs.YtcmdhfccdkjenaaGreatDoor
namespace Go.Proofs.YtcmdhfccdkjenaaGreatDoor
open Go.RowKit Go.Shelf

theorem PolX.inG {w : World} {v0 v1 v2 v3 : Value} {l : List St} {g h : List Rl} {qs : List Qv} {F : Qv → List ByteArray} {PS NS : List ByteArray} (P : PolX w v0 v1 v2 v3 l g h qs F PS NS) : ∀ r ∈ g, r.o ∈ PS ∧ r.n ∈ NS := by
 intro r hr
 have hm : r ∈ allRoles l g h qs := by
  unfold allRoles
  exact List.mem_append.2 (.inl (List.mem_append.2 (.inl (List.mem_append.2 (.inr hr)))))
 rw [← P.eP, ← P.eN, new_mem, new_mem]
 unfold allPrins allNames
 exact ⟨List.mem_append.2 (.inl (List.mem_append.2 (.inl (List.mem_map.2 ⟨r, hm, rfl⟩)))), List.mem_append.2 (.inl (List.mem_map.2 ⟨r, hm, rfl⟩))⟩
theorem max_members {l c : List St} {g : List Rl} {A B : List ByteArray} {ps qs : List Pr} (hAB : ∀ s ∈ l, InAB A B s) (hg : ∀ r ∈ g, r.o ∈ A) (hD : LeastS (maxS l g A B) (fun r x => (r, x) ∈ ps)) (hE : LeastS c (fun r x => (r, x) ∈ qs))
  (hc : ∀ s ∈ c, s ∈ l ∨ s.h ∉ g) {a n : ByteArray} (ha : a ∈ A) (hn : n ∈ B) {y : ByteArray} (hy : y ∈ membersP qs ⟨a, n⟩) : hasB (membersP ps ⟨a, n⟩) (sig A y) = true := by
 rw [hasB_mem, membersP_mem]
 have := max_bounds hAB hg hD hE hc ⟨a, n⟩ y (membersP_mem.1 hy) hn
 dsimp only at this
 rwa [sig_in ha] at this
end Go.Proofs.YtcmdhfccdkjenaaGreatDoor
namespace Go.Proofs.YtcmdhfccdkjenaaGreatDoor
open Go.RowKit Go.Shelf

section
variable {M : Rl → List ByteArray} {q : Qv} {us : List ByteArray}
end
section
variable {w : World} {v0 v1 v2 v3 : Value} {l c : List St} {g h : List Rl} {qs : List Qv} {q : Qv} {us PS NS : List ByteArray}
end
end Go.Proofs.YtcmdhfccdkjenaaGreatDoor
namespace Go.Proofs.YtcmdhfccdkjenaaGreatDoor
open Go.RowKit Go.Shelf

theorem asc_nd {l : List ByteArray} (h : AscB l) : l.Nodup := by
 refine List.Pairwise.imp (fun {a b} hab e => ?_) h
 subst e
 have := (cmpS_zero a a).2 rfl
 omega
theorem least_sound {l : List St} {ps : List Pr} (h : LeastS l (fun r x => (r, x) ∈ ps)) : SoundS l ps := fun E hE p hp => h.min E hE p.1 p.2 hp
theorem mems_in {l : List St} {A B : List ByteArray} {ps : List Pr} (h : ∀ s ∈ l, InAB A B s) (hp : LeastS l (fun r x => (r, x) ∈ ps)) (r : Rl) : (∀ y ∈ membersP ps r, y ∈ A) ∧ (membersP ps r).length ≤ A.length := by
 have h1 : ∀ y ∈ membersP ps r, y ∈ A := fun y hy => (sound_in h (least_sound hp) (r, y) (membersP_mem.1 hy)).2
 exact ⟨h1, nodup_le _ _ (asc_nd (membersP_asc ps r)) h1⟩
section
variable {w : World} {v0 v1 v2 v3 : Value} {l : List St} {g h : List Rl} {qs : List Qv} {F : Qv → List ByteArray} {PS NS : List ByteArray}
theorem PolX.minIn (P : PolX w v0 v1 v2 v3 l g h qs F PS NS) : ∀ s ∈ minS l h, InAB PS NS s := fun s hs => P.inAB s (List.mem_filter.1 hs).1
theorem PolX.maxIn (P : PolX w v0 v1 v2 v3 l g h qs F PS NS) : ∀ s ∈ maxS l g PS NS, InAB (putX PS) NS s := maxS_in P.inAB
theorem PolX.sizeP (P : PolX w v0 v1 v2 v3 l g h qs F PS NS) (h6 : PS.length ≤ 16) : ∀ y ∈ putX PS, y.size ≤ 8 := fun y hy => by
 rcases putX_mem.1 hy with hy | rfl
 ·exact isP_size (P.rP y hy)
 ·exact isP_size (fresh_prin h6)
theorem row_fits (P : PolX w v0 v1 v2 v3 l g h qs F PS NS) (h6 : PS.length ≤ 16) {ps es : List Pr} (hps : LeastS (minS l h) (fun r x => (r, x) ∈ ps)) (hes : LeastS (maxS l g PS NS) (fun r x => (r, x) ∈ es)) {X : ByteArray} {q : Rl} (hq : q ∈ allR PS NS) {x : MV} (hx : x.s = rowM ps es X q) : (1 ≤ x.s.k ∧ x.s.k ≤ 4) ∧ x.fits := by
 obtain ⟨hqo, hqn⟩ := allR_mem.1 hq
 have h1 := mems_in P.minIn hps q
 have h2 := mems_in P.maxIn hes q
 have hpx := putX_len PS
 have s1 := P.sizeP h6
 have hk : 1 ≤ (rowM ps es X q).k ∧ (rowM ps es X q).k ≤ 4 := by
  show 1 ≤ kindM _ _ _ ∧ kindM _ _ _ ≤ 4
  unfold kindM
  split
  ·decide
  split
  ·decide
  split <;> decide
 refine ⟨by rw [hx]; exact hk, ?_⟩
 refine ⟨?_, ?_, ?_, ?_, ?_⟩ <;> rw [hx]
 ·exact ⟨Nat.le_trans (isP_size (P.rP _ hqo)) (by decide), Nat.le_trans (isP_size (P.rN _ hqn)) (by decide)⟩
 ·exact fun s hs => Nat.le_trans (isP_size (P.rP s (h1.1 s hs))) (by decide)
 ·exact fun s hs => Nat.le_trans (s1 s (h2.1 s (List.mem_filter.1 hs).1)) (by decide)
 ·have := h1.2
  show (membersP ps q).length ≤ 60
  omega
 ·have := h2.2
  have h3 := List.length_filter_le (fun y => !decide (y = X)) (membersP es q)
  show ((membersP es q).filter _).length ≤ 60
  omega
end
end Go.Proofs.YtcmdhfccdkjenaaGreatDoor
namespace Go.Proofs.YtcmdhfccdkjenaaGreatDoor
open Go.RowKit Go.Shelf

structure FQ where
 k : Int
 r : Rl
 us : List ByteArray
structure FV where
 s : FQ
 wv : Value
def FV.cells (x : FV) : List Value := [.int .i64 x.s.k, .string x.s.r.o, .string x.s.r.n, .string emp, .string emp, x.wv]
theorem FV.cells_len (x : FV) : x.cells.length = 6 := rfl
def factsOf (x : MR) : List FQ := (if x.lo.length = 0 then [] else [⟨1, x.r, x.lo.take (min x.lo.length 12)⟩]) ++ (if x.k ≠ 3 ∧ x.hi.length ≤ 12 then [⟨3, x.r, x.hi⟩] else [])
def factsM (R : List MR) : List FQ := R.flatMap factsOf
theorem facts_snoc {R : List MR} {j : Nat} (hj : j < R.length) : factsM (R.take (j + 1)) = factsM (R.take j) ++ factsOf R[j] := by
 unfold factsM
 rw [List.take_succ_eq_append_getElem hj, List.flatMap_append]
 simp
theorem factsOf_len (x : MR) : (factsOf x).length ≤ 2 := by
 unfold factsOf
 rw [List.length_append]
 have h1 : (if x.lo.length = 0 then ([] : List FQ) else [⟨1, x.r, x.lo.take (min x.lo.length 12)⟩]).length ≤ 1 := by split <;> simp
 have h2 : (if x.k ≠ 3 ∧ x.hi.length ≤ 12 then [(⟨3, x.r, x.hi⟩ : FQ)] else []).length ≤ 1 := by split <;> simp
 omega
theorem factsM_len : ∀ R : List MR, (factsM R).length ≤ R.length * 2
 | [] => by simp [factsM]
 | x :: R => by
  have h1 := factsM_len R
  have h2 := factsOf_len x
  unfold factsM at h1 ⊢
  rw [List.flatMap_cons, List.length_append, List.length_cons]
  omega
def FactsIn (w : World) (T : List FV) : Prop := ∀ x ∈ T, w.ownsRow 0 9 1 x.wv x.s.us.length (strs x.s.us)
theorem FactsIn.below {w w' : World} {T : List FV} (h : FactsIn w T) (hb : Below w.heap.size w w') : FactsIn w' T := fun x hx => own_below (h x hx) hb
theorem FactsIn.far {w w' : World} {T : List FV} {B n size : Nat} {v : Value} {xs : List Value} (h : FactsIn w T) (ho : w.ownsRow B 45 size v n xs) (hg : w.grownBy w' v.ownBlock) : FactsIn w' T := fun x hx => own_far (h x hx) ho hg (by decide)
theorem FactsIn.snoc {w : World} {T : List FV} {x : FV} (h : FactsIn w T) (h1 : w.ownsRow 0 9 1 x.wv x.s.us.length (strs x.s.us)) : FactsIn w (T ++ [x]) := fun y hy => by
 rcases List.mem_append.1 hy with hy | hy
 ·exact h y hy
 ·rw [List.mem_singleton.1 hy]; exact h1
theorem qy_info : (Tryz.prog.info? 45).map (fun i => (i.zero, i.size, i.bytes)) = some (some (.agg #[.int .i64 0, .string emp, .string emp, .string emp, .string emp, .slice none 0 0]), 6, 96) := by kernel_rfl
theorem SlA.front {w : World} {a : Option Addr} {c : Nat} {xs : List ByteArray} {n : Nat} (h : SlA w 1 (.slice a xs.length c) xs.length (strs xs)) (hn : n ≤ xs.length) : SlA w 1 (.slice a n c) n (strs (xs.take n)) := by
 by_cases h0 : 0 < xs.length
 ·obtain ⟨b, o, c', e, h1, h2, h3, h4⟩ := h.pos h0
  simp only [Value.slice.injEq, true_and] at e
  obtain ⟨rfl, rfl⟩ := e
  refine .inl ⟨by rw [strs_len, List.length_take]; omega, by simp only [maxLen]; omega, .inr ⟨b, o, c, rfl, by omega, by simpa [maxLen] using h2, h3, fun j u hu => ?_⟩⟩
  have hj : j < (strs (xs.take n)).length := (List.getElem?_eq_some_iff.1 hu).1
  rw [strs_len, List.length_take] at hj
  refine h4 j u ?_
  unfold strs at hu ⊢
  rw [List.getElem?_map, List.getElem?_take] at hu
  rw [List.getElem?_map]
  split at hu
  ·exact hu
  ·cases hu
 ·have hx : xs = [] := List.eq_nil_of_length_eq_zero (by omega)
  subst hx
  have hn0 : n = 0 := by simpa using hn
  subst hn0
  exact h
theorem fv_take : ∀ (k : Nat) (T : List FV), (T.take k).flatMap FV.cells = (T.flatMap FV.cells).take (k * 6)
 | 0, T => by simp
 | k + 1, [] => by simp
 | k + 1, x :: T => by
  have h := fv_take k T
  rw [List.take_succ_cons, List.flatMap_cons, List.flatMap_cons, h, show (k + 1) * 6 = x.cells.length + k * 6 by rw [FV.cells_len]; omega, List.take_length_add_append]
theorem Sl.front {w : World} {size n k c : Nat} {a : Option Addr} {xs : List Value} (h : Sl w size (.slice a n c) n xs) (hk : k ≤ n) : Sl w size (.slice a k c) k (xs.take (k * size)) := by
 have hm : k * size ≤ n * size := Nat.mul_le_mul_right _ hk
 refine ⟨by rw [List.length_take, h.1]; omega, Nat.le_trans hk h.2.1, ?_⟩
 rcases h.2.2 with ⟨e, e0⟩ | ⟨b, o, c', e, h1, h2, h3, h4⟩
 ·simp only [Value.slice.injEq] at e
  obtain ⟨rfl, _, rfl⟩ := e
  have : k = 0 := by omega
  subst this
  exact .inl ⟨rfl, rfl⟩
 ·simp only [Value.slice.injEq, true_and] at e
  obtain ⟨rfl, rfl⟩ := e
  refine .inr ⟨b, o, c, rfl, by omega, h2, h3, fun j u hu => h4 j u ?_⟩
  rw [List.getElem?_take] at hu
  split at hu
  ·exact hu
  ·cases hu
theorem take_min {α : Type} {l : List α} {n m : Nat} (h : n = min l.length m) : l.take n = l.take m := by
 subst h
 by_cases hm : m ≤ l.length
 ·rw [Nat.min_eq_right hm]
 ·rw [Nat.min_eq_left (by omega), List.take_of_length_le (Nat.le_refl _), List.take_of_length_le (by omega)]
def FactsP (w : World) (R : List MV) (most : Int) (e : Ending) (w' : World) : Prop := ∃ (v' : Value) (T : List FV), e = .returned v' ∧ Sl w' 6 v' T.length (T.flatMap FV.cells) ∧ FactsIn w' T ∧ T.map FV.s = (factsM (R.map MV.s)).take (max 0 (min most 1000)).toNat ∧ Below w.heap.size w w'
set_option maxRecDepth 100000 in
set_option maxHeartbeats 16000000 in
theorem mat_Facts (v : Value) (R : List MV) (most : Int) (w : World) (hm : -9223372036854775808 ≤ most ∧ most ≤ 9223372036854775807) (hR : SlA w 6 v R.length (R.flatMap MV.cells)) (hok : ∀ x ∈ R, x.ok w) (hf : ∀ x ∈ R, x.s.lo.length ≤ 10000 ∧ x.s.hi.length ≤ 10000) (hn : R.length ≤ 1000) :
  Calls Tryz.prog 58 #[v, .int .i64 most] w (FactsP w R most) := by
 have HR := Lib.hid hR
 have HK := Lib.hid hok
 have HFL := Lib.hid hf
 obtain ⟨va, vc, rfl⟩ := hR.form
 obtain ⟨qinf, hqi, qs0, qs1, qs2⟩ := info_parts qy_info
 have HQI := Lib.hid hqi
 clear hR hok hf hqi
 go_enter Tryz.func58, Tryz.ntmps58
 go_wp2_with fail
 go_loopw [4, 10] (fun vo i wr => ∃ (j : Nat) (T : List FV), j ≤ R.length ∧ i = .int .i64 j ∧ Hid (T.map FV.s = factsM ((R.map MV.s).take j)) ∧ Hid (Below w.heap.size w wr) ∧ Hid (wr.ownsRow w.heap.size 45 6 vo T.length (T.flatMap FV.cells)) ∧ Hid (FactsIn wr T)) (fun _ i _ => R.length - (intOf i).toNat)
 case atStart => exact ⟨0, [], by omega, rfl, Lib.hid rfl, Lib.hid (Below.refl _ _), Lib.hid (World.ownsRow_nil _ _ _ _), Lib.hid (fun _ hx => by cases hx)⟩
 case round =>
  obtain ⟨j, T0, hj, rfl, HTE, HB, HO, HF⟩ := hrel
  obtain ⟨oo, oc, rfl⟩ := own_form HO.out
  have hT0 : T0.length ≤ 2000 := by
   have h1 := congrArg List.length HTE.out
   have h2 := factsM_len ((R.map MV.s).take j)
   have h3 : ((R.map MV.s).take j).length ≤ (R.map MV.s).length := by rw [List.length_take]; omega
   rw [List.length_map] at h1 h3
   omega
  by_cases hlt : j < R.length
  ·obtain ⟨b1, o1, c1', he1, hc1, hm1, hb1', hx1⟩ := (HR.out.below HB.out).pos (by omega)
   simp only [Value.slice.injEq, true_and] at he1
   obtain ⟨rfl, rfl⟩ := he1
   obtain ⟨p0, p1, p2, p3, p4, p5⟩ := mv_cell hx1 j hlt
   have hxk := HK.out R[j] (List.getElem_mem hlt)
   have hfl := HFL.out R[j] (List.getElem_mem hlt)
   have FS := Lib.hid (show factsM ((R.map MV.s).take (j + 1)) = factsM ((R.map MV.s).take j) ++ factsOf R[j].s by have := facts_snoc (R := R.map MV.s) (j := j) (by rw [List.length_map]; exact hlt); rw [List.getElem_map] at this; exact this)
   clear hx1
   generalize R[j] = x at *
   obtain ⟨⟨⟨y1, y2⟩, lo, hi, op, k⟩, lv, hv⟩ := x
   obtain ⟨g1, g3, e1⟩ := hxk.1.form
   obtain ⟨g4, g6, e2⟩ := hxk.2.form
   dsimp only at e1 e2 p0 p1 p2 p3 p4 p5 FS hfl
   subst e1 e2
   have HLO := Lib.hid hxk.1
   have HHI := Lib.hid hxk.2
   dsimp only at HLO HHI
   clear hxk
   obtain ⟨wa, hwa⟩ : ∃ V, V = wr.alloc (.cells #[.string y1, .string y2, .slice g1 lo.length g3, .slice g4 hi.length g6, .bool op, .int .i64 k] 77) := ⟨_, rfl⟩
   obtain ⟨G, hG⟩ : ∃ G, G = wr.heap.size := ⟨_, rfl⟩
   have hba : Below wr.heap.size wr wa := by rw [hwa]; exact (Below.refl _ _).alloc (Nat.le_refl _) _
   have HG := Lib.hid (show CAt wa G #[.string y1, .string y2, .slice g1 lo.length g3, .slice g4 hi.length g6, .bool op, .int .i64 k] 77 by rw [hwa, hG]; exact heap_new1 _ _)
   have HB := Lib.hid (HB.out.trans (hba.mono HB.out.size))
   have HO := Lib.hid (own_below HO.out hba)
   have HF := Lib.hid (HF.out.below hba)
   go_upto_region 4 with fail
   rw [← hwa, ← hG]
   clear hwa hG hba p0 p1 p2 p3 p4 p5 hb1'
   obtain ⟨wr, hwr⟩ : ∃ W, W = wa := ⟨_, rfl⟩
   rw [← hwr] at HG HB HO HF ⊢
   clear hwr
   obtain ⟨n, hn12⟩ : ∃ n, n = min lo.length 12 := ⟨_, rfl⟩
   have hmin : min (lo.length : Int) 12 = (n : Int) := by omega
   have hnl : n ≤ lo.length ∧ n ≤ 12 := by omega
   have HN12 := Lib.hid hn12
   have hlz : ¬ 0 < n → lo.length = 0 := by omega
   clear hn12
   obtain ⟨cg, fg, zg⟩ := HG.out.blk
   by_cases h0 : 0 < n
   ·have hlo : ¬ lo.length = 0 := by omega
    have hcap : n ≤ g3 := by
     obtain ⟨_, _, c9, e9, h9, _⟩ := HLO.out.pos (by omega)
     simp only [Value.slice.injEq, true_and] at e9
     omega
    go_upto_region 6 with fail
    clear cg fg zg
    go_wp2_with fail
    have hd := below_drew (Below.refl wr.heap.size wr)
    refine wp_region_held_drew (S := (fun W => ∀ o, W.cell? ⟨G, o, none⟩ = (#[.string y1, .string y2, .slice g1 lo.length g3, .slice g4 hi.length g6, .bool op, .int .i64 k] : Array Value)[o]?)) (by kernel_rfl) (HG.out.below hd).blk.1 (fun hHeld => ?_)
    have HG := Lib.hid (HG.out.below hd)
    have HB := Lib.hid (HB.out.trans (hd.mono HB.out.size))
    have HO := Lib.hid (own_below HO.out hd)
    have HF := Lib.hid (HF.out.below hd)
    obtain ⟨wk, hwk⟩ : ∃ W, W = wr.drew := ⟨_, rfl⟩
    rw [← hwk] at HG HB HO HF hHeld ⊢
    clear hwk hd
    (refine hyes 0 ?_); (refine hyes 1 ?_); (refine hyes 2 ?_); (refine hyes 3 ?_); (refine hyes 4 ?_); (refine hyes 5 ?_); (refine hyes 6 ?_); (try simp only [Act.put, List.setIfInBounds_toArray, List.set])
    (refine held_call 7 rfl (by kernel_rfl) (fun K hK => ?_); go_simp)
    refine (str_CloneO (.slice g1 n g3) (lo.take n) _ (by rw [show (lo.take n).length = n by rw [List.length_take]; omega]; exact (HLO.out.below HB.out).front (by omega)) (by rw [List.length_take]; omega)).mono ?_; rintro e wz1 ⟨vx, rfl, hox, hbq⟩
    rw [show (lo.take n).length = n by rw [List.length_take]; omega] at hox
    obtain ⟨xa, xc, rfl⟩ := own_form hox
    have HG := Lib.hid (HG.out.below hbq)
    have HB := Lib.hid (HB.out.trans (hbq.mono HB.out.size))
    have HO := Lib.hid (own_below HO.out hbq)
    have HF := Lib.hid (HF.out.below hbq)
    have HX := Lib.hid (own_mono hox (Nat.zero_le _))
    clear hbq hox
    (refine hK.out _ _ (HG.out.blk.1) (fun hHeld => ?_); clear hK K; (try simp only [Act.put, List.setIfInBounds_toArray, List.set]))
    (refine hyes 8 ?_); (try simp only [Act.put, List.setIfInBounds_toArray, List.set])
    (refine held_call 9 rfl (by kernel_rfl) (fun K hK => ?_); go_simp)
    obtain ⟨wn, hwn⟩ : ∃ V, V = wz1.alloc (.cells #[.int .i64 1, .string y1, .string y2, .string emp, .string emp, .slice xa n xc] 45) := ⟨_, rfl⟩
    obtain ⟨bn, hbn⟩ : ∃ b, b = wz1.heap.size := ⟨_, rfl⟩
    rw [← hwn, ← hbn]
    have hbq : Below wz1.heap.size wz1 wn := by rw [hwn]; exact (Below.refl _ _).alloc (Nat.le_refl _) _
    have HN := Lib.hid (show Sl wn 6 (.slice (some ⟨bn, 0, none⟩) 1 1) 1 [.int .i64 1, .string y1, .string y2, .string emp, .string emp, .slice xa n xc] by rw [hwn]; exact Sl.new wz1 [.int .i64 1, .string y1, .string y2, .string emp, .string emp, .slice xa n xc] 45 6 1 bn hbn rfl (by decide))
    have HG := Lib.hid (HG.out.below hbq)
    have HB := Lib.hid (HB.out.trans (hbq.mono HB.out.size))
    have HO := Lib.hid (own_below HO.out hbq)
    have HF := Lib.hid (HF.out.below hbq)
    have HX := Lib.hid (own_below HX.out hbq)
    clear hbq hwn hbn
    (refine hK.out _ _ (HG.out.blk.1) (fun hHeld => ?_); clear hK K; (try simp only [Act.put, List.setIfInBounds_toArray, List.set]))
    refine held_call 10 rfl (by kernel_rfl) (fun K hK => ?_)
    refine step_row rfl _ _ 24 rfl w.heap.size 45 qinf _ 6 96 Tryz.underlying24 HQI.out qs0 qs1 qs2 (by decide) rfl (by decide) _ T0.length _ rfl HO.out _ 1 _ rfl HN.out.a (by intro u hu; simp only [List.mem_cons, List.not_mem_nil, or_false] at hu; rcases hu with rfl | rfl | rfl | rfl | rfl | rfl <;> rfl) (by omega) HB.out.size ?_
    intro a5 c5 wc hown5 hg5
    have HG := Lib.hid (HG.out.grown HO.out hg5 (by decide))
    have HF := Lib.hid (HF.out.far HO.out hg5)
    have HX := Lib.hid (own_far HX.out HO.out hg5 (by decide))
    have HB := Lib.hid (below_own HB.out HO.out hg5 HB.out.size (Nat.le_refl _))
    have HF := Lib.hid (HF.out.snoc (x := ⟨⟨1, ⟨y1, y2⟩, lo.take n⟩, .slice xa n xc⟩) (by rw [show (lo.take n).length = n by rw [List.length_take]; omega]; exact HX.out))
    have HO := Lib.hid (show wc.ownsRow w.heap.size 45 6 (.slice a5 (T0.length + 1) c5) (T0 ++ [(⟨⟨1, ⟨y1, y2⟩, lo.take n⟩, .slice xa n xc⟩ : FV)]).length ((T0 ++ [(⟨⟨1, ⟨y1, y2⟩, lo.take n⟩, .slice xa n xc⟩ : FV)]).flatMap FV.cells) by rw [List.length_append, List.flatMap_append]; exact hown5)
    clear hg5 hown5 HN HX
    (refine hK.out _ _ (HG.out.blk.1) (fun hHeld => ?_); clear hK K; (try simp only [Act.put, List.setIfInBounds_toArray, List.set]))
    (refine hyes 11 ?_); (try simp only [Act.put, List.setIfInBounds_toArray, List.set])
    refine wpAnyH_done (by kernel_rfl) ?_ _
    clear hHeld
    obtain ⟨T1, hT2⟩ : ∃ t, t = T0 ++ [(⟨⟨1, ⟨y1, y2⟩, lo.take n⟩, .slice xa n xc⟩ : FV)] := ⟨_, rfl⟩
    have hTl : T1.length = T0.length + 1 := by rw [hT2, List.length_append]; rfl
    have HM := Lib.hid (show T1.map FV.s = T0.map FV.s ++ [⟨1, ⟨y1, y2⟩, lo.take n⟩] by rw [hT2, List.map_append]; rfl)
    rw [← hT2] at HF HO
    rw [← hTl] at HO ⊢
    have hTb : T1.length ≤ T0.length + 1 := by omega
    clear hT2 hTl
    obtain ⟨wr, hwr⟩ : ∃ W, W = wc := ⟨_, rfl⟩
    rw [← hwr] at HG HB HO HF ⊢
    clear hwr
    have HM1 := HM
    have hT1 : T1.length ≤ 2001 := by omega
    by_cases hk3 : k = 3
    ·subst hk3
     have HFE := Lib.hid (show T0.map FV.s ++ factsOf ⟨⟨y1, y2⟩, lo, hi, op, 3⟩ = T1.map FV.s by unfold factsOf; rw [if_neg hlo, HM1.out, ← HN12.out]; rw [if_neg (show ¬ ((3 : Int) ≠ 3 ∧ hi.length ≤ 12) from fun h => h.1 rfl)]; simp)
     obtain ⟨cg, fg, zg⟩ := HG.out.blk
     go_wp2_with fail
     exact ⟨⟨j + 1, T1, by omega, by go_num, Lib.hid (by rw [FS.out, ← HFE.out, ← HTE.out]), HB, HO, HF⟩, by simp [intOf]; omega⟩
    ·have d3 : (k != 3) = true := by simp [hk3]
     have d3b : (k == 3) = false := by simp [hk3]
     by_cases h12 : hi.length ≤ 12
     ·have d12 : decide ((hi.length : Int) ≤ 12) = true := by rw [decide_eq_true_iff]; omega
      have HFE := Lib.hid (show ∀ q, q = (⟨3, ⟨y1, y2⟩, hi⟩ : FQ) → T0.map FV.s ++ factsOf ⟨⟨y1, y2⟩, lo, hi, op, k⟩ = T1.map FV.s ++ [q] from fun q hq => by subst hq; unfold factsOf; rw [if_neg hlo, HM1.out, ← HN12.out]; rw [if_pos ⟨hk3, h12⟩]; simp)
      clear hk3
      obtain ⟨cg, fg, zg⟩ := HG.out.blk
      go_wp2_with fail
      have hd := below_drew (Below.refl wr.heap.size wr)
      refine wp_region_held_drew (S := (fun W => ∀ o, W.cell? ⟨G, o, none⟩ = (#[.string y1, .string y2, .slice g1 lo.length g3, .slice g4 hi.length g6, .bool op, .int .i64 k] : Array Value)[o]?)) (by kernel_rfl) (HG.out.below hd).blk.1 (fun hHeld => ?_)
      have HG := Lib.hid (HG.out.below hd)
      have HB := Lib.hid (HB.out.trans (hd.mono HB.out.size))
      have HO := Lib.hid (own_below HO.out hd)
      have HF := Lib.hid (HF.out.below hd)
      obtain ⟨wk, hwk⟩ : ∃ W, W = wr.drew := ⟨_, rfl⟩
      rw [← hwk] at HG HB HO HF hHeld ⊢
      clear hwk hd
      (refine hyes 0 ?_); (refine hyes 1 ?_); (refine hyes 2 ?_); (refine hyes 3 ?_); (refine hyes 4 ?_); (try simp only [Act.put, List.setIfInBounds_toArray, List.set])
      (refine held_call 5 rfl (by kernel_rfl) (fun K hK => ?_); go_simp)
      refine (str_CloneO (.slice g4 hi.length g6) (hi) _ ((HHI.out.below HB.out)) (by omega)).mono ?_; rintro e wz1 ⟨vx, rfl, hox, hbq⟩
      skip
      obtain ⟨xa, xc, rfl⟩ := own_form hox
      have HG := Lib.hid (HG.out.below hbq)
      have HB := Lib.hid (HB.out.trans (hbq.mono HB.out.size))
      have HO := Lib.hid (own_below HO.out hbq)
      have HF := Lib.hid (HF.out.below hbq)
      have HX := Lib.hid (own_mono hox (Nat.zero_le _))
      clear hbq hox
      (refine hK.out _ _ (HG.out.blk.1) (fun hHeld => ?_); clear hK K; (try simp only [Act.put, List.setIfInBounds_toArray, List.set]))
      (refine hyes 6 ?_); (try simp only [Act.put, List.setIfInBounds_toArray, List.set])
      (refine held_call 7 rfl (by kernel_rfl) (fun K hK => ?_); go_simp)
      obtain ⟨wn, hwn⟩ : ∃ V, V = wz1.alloc (.cells #[.int .i64 3, .string y1, .string y2, .string emp, .string emp, .slice xa hi.length xc] 45) := ⟨_, rfl⟩
      obtain ⟨bn, hbn⟩ : ∃ b, b = wz1.heap.size := ⟨_, rfl⟩
      rw [← hwn, ← hbn]
      have hbq : Below wz1.heap.size wz1 wn := by rw [hwn]; exact (Below.refl _ _).alloc (Nat.le_refl _) _
      have HN := Lib.hid (show Sl wn 6 (.slice (some ⟨bn, 0, none⟩) 1 1) 1 [.int .i64 3, .string y1, .string y2, .string emp, .string emp, .slice xa hi.length xc] by rw [hwn]; exact Sl.new wz1 [.int .i64 3, .string y1, .string y2, .string emp, .string emp, .slice xa hi.length xc] 45 6 1 bn hbn rfl (by decide))
      have HG := Lib.hid (HG.out.below hbq)
      have HB := Lib.hid (HB.out.trans (hbq.mono HB.out.size))
      have HO := Lib.hid (own_below HO.out hbq)
      have HF := Lib.hid (HF.out.below hbq)
      have HX := Lib.hid (own_below HX.out hbq)
      clear hbq hwn hbn
      (refine hK.out _ _ (HG.out.blk.1) (fun hHeld => ?_); clear hK K; (try simp only [Act.put, List.setIfInBounds_toArray, List.set]))
      refine held_call 8 rfl (by kernel_rfl) (fun K hK => ?_)
      refine step_row rfl _ _ 24 rfl w.heap.size 45 qinf _ 6 96 Tryz.underlying24 HQI.out qs0 qs1 qs2 (by decide) rfl (by decide) _ T1.length _ rfl HO.out _ 1 _ rfl HN.out.a (by intro u hu; simp only [List.mem_cons, List.not_mem_nil, or_false] at hu; rcases hu with rfl | rfl | rfl | rfl | rfl | rfl <;> rfl) (by omega) HB.out.size ?_
      intro a5 c5 wc hown5 hg5
      have HG := Lib.hid (HG.out.grown HO.out hg5 (by decide))
      have HF := Lib.hid (HF.out.far HO.out hg5)
      have HX := Lib.hid (own_far HX.out HO.out hg5 (by decide))
      have HB := Lib.hid (below_own HB.out HO.out hg5 HB.out.size (Nat.le_refl _))
      have HF := Lib.hid (HF.out.snoc (x := ⟨⟨3, ⟨y1, y2⟩, hi⟩, .slice xa hi.length xc⟩) (HX.out))
      have HO := Lib.hid (show wc.ownsRow w.heap.size 45 6 (.slice a5 (T1.length + 1) c5) (T1 ++ [(⟨⟨3, ⟨y1, y2⟩, hi⟩, .slice xa hi.length xc⟩ : FV)]).length ((T1 ++ [(⟨⟨3, ⟨y1, y2⟩, hi⟩, .slice xa hi.length xc⟩ : FV)]).flatMap FV.cells) by rw [List.length_append, List.flatMap_append]; exact hown5)
      clear hg5 hown5 HN HX
      (refine hK.out _ _ (HG.out.blk.1) (fun hHeld => ?_); clear hK K; (try simp only [Act.put, List.setIfInBounds_toArray, List.set]))
      (refine hyes 9 ?_); (try simp only [Act.put, List.setIfInBounds_toArray, List.set])
      refine wpAnyH_done (by kernel_rfl) ?_ _
      clear hHeld
      obtain ⟨T9, hT2⟩ : ∃ t, t = T1 ++ [(⟨⟨3, ⟨y1, y2⟩, hi⟩, .slice xa hi.length xc⟩ : FV)] := ⟨_, rfl⟩
      have hTl : T9.length = T1.length + 1 := by rw [hT2, List.length_append]; rfl
      have HM := Lib.hid (show T9.map FV.s = T1.map FV.s ++ [⟨3, ⟨y1, y2⟩, hi⟩] by rw [hT2, List.map_append]; rfl)
      rw [← hT2] at HF HO
      rw [← hTl] at HO ⊢
      have hTb : T9.length ≤ T1.length + 1 := by omega
      clear hT2 hTl
      obtain ⟨wr, hwr⟩ : ∃ W, W = wc := ⟨_, rfl⟩
      rw [← hwr] at HG HB HO HF ⊢
      clear hwr
      have HFE := Lib.hid ((HFE.out _ rfl).trans HM.out.symm)
      clear cg fg zg
      go_wp2_with fail
      exact ⟨⟨j + 1, T9, by omega, by go_num, Lib.hid (by rw [FS.out, ← HFE.out, ← HTE.out]), HB, HO, HF⟩, by simp [intOf]; omega⟩
     ·have d12 : decide ((hi.length : Int) ≤ 12) = false := by rw [decide_eq_false_iff_not]; omega
      have HFE := Lib.hid (show T0.map FV.s ++ factsOf ⟨⟨y1, y2⟩, lo, hi, op, k⟩ = T1.map FV.s by unfold factsOf; rw [if_neg hlo, HM1.out, ← HN12.out]; rw [if_neg (show ¬ (k ≠ 3 ∧ hi.length ≤ 12) from fun h => h12 h.2)]; simp)
      obtain ⟨cg, fg, zg⟩ := HG.out.blk
      go_wp2_with fail
      exact ⟨⟨j + 1, T1, by omega, by go_num, Lib.hid (by rw [FS.out, ← HFE.out, ← HTE.out]), HB, HO, HF⟩, by simp [intOf]; omega⟩
   ·have hlo : lo.length = 0 := hlz h0
    go_upto_region 7 with fail
    clear cg fg zg
    by_cases hk3 : k = 3
    ·subst hk3
     have HFE := Lib.hid (show T0.map FV.s ++ factsOf ⟨⟨y1, y2⟩, lo, hi, op, 3⟩ = T0.map FV.s by unfold factsOf; rw [if_pos hlo]; rw [if_neg (show ¬ ((3 : Int) ≠ 3 ∧ hi.length ≤ 12) from fun h => h.1 rfl)]; simp)
     obtain ⟨cg, fg, zg⟩ := HG.out.blk
     go_wp2_with fail
     exact ⟨⟨j + 1, T0, by omega, by go_num, Lib.hid (by rw [FS.out, ← HFE.out, ← HTE.out]), HB, HO, HF⟩, by simp [intOf]; omega⟩
    ·have d3 : (k != 3) = true := by simp [hk3]
     have d3b : (k == 3) = false := by simp [hk3]
     by_cases h12 : hi.length ≤ 12
     ·have d12 : decide ((hi.length : Int) ≤ 12) = true := by rw [decide_eq_true_iff]; omega
      have HFE := Lib.hid (show ∀ q, q = (⟨3, ⟨y1, y2⟩, hi⟩ : FQ) → T0.map FV.s ++ factsOf ⟨⟨y1, y2⟩, lo, hi, op, k⟩ = T0.map FV.s ++ [q] from fun q hq => by subst hq; unfold factsOf; rw [if_pos hlo]; rw [if_pos ⟨hk3, h12⟩]; simp)
      clear hk3
      obtain ⟨cg, fg, zg⟩ := HG.out.blk
      go_wp2_with fail
      have hd := below_drew (Below.refl wr.heap.size wr)
      refine wp_region_held_drew (S := (fun W => ∀ o, W.cell? ⟨G, o, none⟩ = (#[.string y1, .string y2, .slice g1 lo.length g3, .slice g4 hi.length g6, .bool op, .int .i64 k] : Array Value)[o]?)) (by kernel_rfl) (HG.out.below hd).blk.1 (fun hHeld => ?_)
      have HG := Lib.hid (HG.out.below hd)
      have HB := Lib.hid (HB.out.trans (hd.mono HB.out.size))
      have HO := Lib.hid (own_below HO.out hd)
      have HF := Lib.hid (HF.out.below hd)
      obtain ⟨wk, hwk⟩ : ∃ W, W = wr.drew := ⟨_, rfl⟩
      rw [← hwk] at HG HB HO HF hHeld ⊢
      clear hwk hd
      (refine hyes 0 ?_); (refine hyes 1 ?_); (refine hyes 2 ?_); (refine hyes 3 ?_); (refine hyes 4 ?_); (try simp only [Act.put, List.setIfInBounds_toArray, List.set])
      (refine held_call 5 rfl (by kernel_rfl) (fun K hK => ?_); go_simp)
      refine (str_CloneO (.slice g4 hi.length g6) (hi) _ ((HHI.out.below HB.out)) (by omega)).mono ?_; rintro e wz1 ⟨vx, rfl, hox, hbq⟩
      skip
      obtain ⟨xa, xc, rfl⟩ := own_form hox
      have HG := Lib.hid (HG.out.below hbq)
      have HB := Lib.hid (HB.out.trans (hbq.mono HB.out.size))
      have HO := Lib.hid (own_below HO.out hbq)
      have HF := Lib.hid (HF.out.below hbq)
      have HX := Lib.hid (own_mono hox (Nat.zero_le _))
      clear hbq hox
      (refine hK.out _ _ (HG.out.blk.1) (fun hHeld => ?_); clear hK K; (try simp only [Act.put, List.setIfInBounds_toArray, List.set]))
      (refine hyes 6 ?_); (try simp only [Act.put, List.setIfInBounds_toArray, List.set])
      (refine held_call 7 rfl (by kernel_rfl) (fun K hK => ?_); go_simp)
      obtain ⟨wn, hwn⟩ : ∃ V, V = wz1.alloc (.cells #[.int .i64 3, .string y1, .string y2, .string emp, .string emp, .slice xa hi.length xc] 45) := ⟨_, rfl⟩
      obtain ⟨bn, hbn⟩ : ∃ b, b = wz1.heap.size := ⟨_, rfl⟩
      rw [← hwn, ← hbn]
      have hbq : Below wz1.heap.size wz1 wn := by rw [hwn]; exact (Below.refl _ _).alloc (Nat.le_refl _) _
      have HN := Lib.hid (show Sl wn 6 (.slice (some ⟨bn, 0, none⟩) 1 1) 1 [.int .i64 3, .string y1, .string y2, .string emp, .string emp, .slice xa hi.length xc] by rw [hwn]; exact Sl.new wz1 [.int .i64 3, .string y1, .string y2, .string emp, .string emp, .slice xa hi.length xc] 45 6 1 bn hbn rfl (by decide))
      have HG := Lib.hid (HG.out.below hbq)
      have HB := Lib.hid (HB.out.trans (hbq.mono HB.out.size))
      have HO := Lib.hid (own_below HO.out hbq)
      have HF := Lib.hid (HF.out.below hbq)
      have HX := Lib.hid (own_below HX.out hbq)
      clear hbq hwn hbn
      (refine hK.out _ _ (HG.out.blk.1) (fun hHeld => ?_); clear hK K; (try simp only [Act.put, List.setIfInBounds_toArray, List.set]))
      refine held_call 8 rfl (by kernel_rfl) (fun K hK => ?_)
      refine step_row rfl _ _ 24 rfl w.heap.size 45 qinf _ 6 96 Tryz.underlying24 HQI.out qs0 qs1 qs2 (by decide) rfl (by decide) _ T0.length _ rfl HO.out _ 1 _ rfl HN.out.a (by intro u hu; simp only [List.mem_cons, List.not_mem_nil, or_false] at hu; rcases hu with rfl | rfl | rfl | rfl | rfl | rfl <;> rfl) (by omega) HB.out.size ?_
      intro a5 c5 wc hown5 hg5
      have HG := Lib.hid (HG.out.grown HO.out hg5 (by decide))
      have HF := Lib.hid (HF.out.far HO.out hg5)
      have HX := Lib.hid (own_far HX.out HO.out hg5 (by decide))
      have HB := Lib.hid (below_own HB.out HO.out hg5 HB.out.size (Nat.le_refl _))
      have HF := Lib.hid (HF.out.snoc (x := ⟨⟨3, ⟨y1, y2⟩, hi⟩, .slice xa hi.length xc⟩) (HX.out))
      have HO := Lib.hid (show wc.ownsRow w.heap.size 45 6 (.slice a5 (T0.length + 1) c5) (T0 ++ [(⟨⟨3, ⟨y1, y2⟩, hi⟩, .slice xa hi.length xc⟩ : FV)]).length ((T0 ++ [(⟨⟨3, ⟨y1, y2⟩, hi⟩, .slice xa hi.length xc⟩ : FV)]).flatMap FV.cells) by rw [List.length_append, List.flatMap_append]; exact hown5)
      clear hg5 hown5 HN HX
      (refine hK.out _ _ (HG.out.blk.1) (fun hHeld => ?_); clear hK K; (try simp only [Act.put, List.setIfInBounds_toArray, List.set]))
      (refine hyes 9 ?_); (try simp only [Act.put, List.setIfInBounds_toArray, List.set])
      refine wpAnyH_done (by kernel_rfl) ?_ _
      clear hHeld
      obtain ⟨T9, hT2⟩ : ∃ t, t = T0 ++ [(⟨⟨3, ⟨y1, y2⟩, hi⟩, .slice xa hi.length xc⟩ : FV)] := ⟨_, rfl⟩
      have hTl : T9.length = T0.length + 1 := by rw [hT2, List.length_append]; rfl
      have HM := Lib.hid (show T9.map FV.s = T0.map FV.s ++ [⟨3, ⟨y1, y2⟩, hi⟩] by rw [hT2, List.map_append]; rfl)
      rw [← hT2] at HF HO
      rw [← hTl] at HO ⊢
      have hTb : T9.length ≤ T0.length + 1 := by omega
      clear hT2 hTl
      obtain ⟨wr, hwr⟩ : ∃ W, W = wc := ⟨_, rfl⟩
      rw [← hwr] at HG HB HO HF ⊢
      clear hwr
      have HFE := Lib.hid ((HFE.out _ rfl).trans HM.out.symm)
      clear cg fg zg
      go_wp2_with fail
      exact ⟨⟨j + 1, T9, by omega, by go_num, Lib.hid (by rw [FS.out, ← HFE.out, ← HTE.out]), HB, HO, HF⟩, by simp [intOf]; omega⟩
     ·have d12 : decide ((hi.length : Int) ≤ 12) = false := by rw [decide_eq_false_iff_not]; omega
      have HFE := Lib.hid (show T0.map FV.s ++ factsOf ⟨⟨y1, y2⟩, lo, hi, op, k⟩ = T0.map FV.s by unfold factsOf; rw [if_pos hlo]; rw [if_neg (show ¬ (k ≠ 3 ∧ hi.length ≤ 12) from fun h => h12 h.2)]; simp)
      obtain ⟨cg, fg, zg⟩ := HG.out.blk
      go_wp2_with fail
      exact ⟨⟨j + 1, T0, by omega, by go_num, Lib.hid (by rw [FS.out, ← HFE.out, ← HTE.out]), HB, HO, HF⟩, by simp [intOf]; omega⟩
  ·have HES := Lib.hid (show T0.map FV.s = factsM (R.map MV.s) by rw [HTE.out, List.take_of_length_le (by rw [List.length_map]; omega)])
   have HRT := Lib.hid (show ∀ N : Nat, N = min T0.length (max 0 (min most 1000)).toNat → Sl wr 6 (.slice oo N oc) N ((T0.take N).flatMap FV.cells) ∧ FactsIn wr (T0.take N) ∧ (T0.take N).map FV.s = (factsM (R.map MV.s)).take (max 0 (min most 1000)).toNat ∧ (T0.take N).length = N from fun N hN => ⟨by rw [fv_take]; exact (Sl.of_own HO.out).front (by omega), fun x hx => HF.out x (List.mem_of_mem_take hx), by rw [List.map_take, HES.out]; exact take_min (by rw [← HES.out, List.length_map]; exact hN), by rw [List.length_take]; omega⟩)
   obtain ⟨_, _, he9, ho9⟩ := own_form2 HO.out
   simp only [Value.slice.injEq, true_and] at he9
   obtain ⟨rfl, rfl⟩ := he9
   have HSL := Lib.hid (Sl.of_own HO.out)
   clear HES HTE hT0
   have HAD := Lib.hid (show ∀ x : Addr, x.add 0 = x from fun x => by cases x; simp [Addr.add])
   have hz : oc = 0 ∨ ∃ b o, oo = some ⟨b, o, none⟩ := by
    rcases HSL.out.2.2 with ⟨e, _⟩ | ⟨b, o, c, e, _⟩
    ·simp only [Value.slice.injEq] at e; exact .inl e.2.2
    ·simp only [Value.slice.injEq] at e; exact .inr ⟨b, o, e.1⟩
   rcases hz with rfl | ⟨b0, o0, rfl⟩
   ·have hT : T0.length = 0 := by omega
    obtain rfl := List.eq_nil_of_length_eq_zero hT
    clear hT
    by_cases c0 : most ≤ 0
    ·have c1 : most ≤ 1000 := by omega
     have c3 : max 0 most = 0 := by omega
     go_wp2_with fail
     obtain ⟨h1, h2, h3, h4⟩ := HRT.out (0) (by omega)
     refine bodyPost_ret (v := .slice oo (0) 0) (by simp [results, Tryz.results58, go_sem]) rfl ⟨_, ([] : List FV).take (0), rfl, by rw [h4]; exact h1, h2, h3, HB.out⟩
    ·by_cases c1 : most ≤ 1000
     ·have c2 : ¬ most ≤ (([] : List FV).length : Int) := by simpa using c0
      go_wp2_with fail
      obtain ⟨h1, h2, h3, h4⟩ := HRT.out (0) (by omega)
      refine bodyPost_ret (v := .slice oo (0) 0) (by simp [results, Tryz.results58, go_sem]) rfl ⟨_, ([] : List FV).take (0), rfl, by rw [h4]; exact h1, h2, h3, HB.out⟩
     ·have c2 : ¬ (1000 ≤ ([] : List FV).length) := by decide
      go_wp2_with fail
      obtain ⟨h1, h2, h3, h4⟩ := HRT.out (0) (by omega)
      refine bodyPost_ret (v := .slice oo (0) 0) (by simp [results, Tryz.results58, go_sem]) rfl ⟨_, ([] : List FV).take (0), rfl, by rw [h4]; exact h1, h2, h3, HB.out⟩
   ·by_cases c0 : most ≤ 0
    ·have c1 : most ≤ 1000 := by omega
     have c2 : most ≤ (T0.length : Int) := by omega
     have c3 : max 0 most = 0 := by omega
     go_wp2_with fail
     obtain ⟨h1, h2, h3, h4⟩ := HRT.out (0) (by omega)
     refine bodyPost_ret (v := .slice (some ⟨b0, o0, none⟩) (0) oc) (by simp [results, Tryz.results58, go_sem]) rfl ⟨_, T0.take (0), rfl, by rw [h4]; exact h1, h2, h3, HB.out⟩
    ·by_cases c1 : most ≤ 1000
     ·by_cases c2 : most ≤ (T0.length : Int)
      ·obtain ⟨q, rfl⟩ : ∃ q : Nat, most = q := ⟨most.toNat, by omega⟩
       have c3 : max 0 (q : Int) = q := by omega
       have c4 : q ≤ oc := by omega
       clear c0
       go_wp2_with fail
       obtain ⟨h1, h2, h3, h4⟩ := HRT.out (q) (by omega)
       refine bodyPost_ret (v := .slice (some ⟨b0, o0, none⟩) (q) oc) (by simp [results, Tryz.results58, go_sem]) rfl ⟨_, T0.take (q), rfl, by rw [h4]; exact h1, h2, h3, HB.out⟩
      ·have c3 : max 0 (T0.length : Int) = T0.length := by omega
       clear c0
       go_wp2_with fail
       obtain ⟨h1, h2, h3, h4⟩ := HRT.out (T0.length) (by omega)
       refine bodyPost_ret (v := .slice (some ⟨b0, o0, none⟩) (T0.length) oc) (by simp [results, Tryz.results58, go_sem]) rfl ⟨_, T0.take (T0.length), rfl, by rw [h4]; exact h1, h2, h3, HB.out⟩
     ·by_cases c2 : 1000 ≤ T0.length
      ·have c3 : max 0 (1000 : Int) = 1000 := by decide
       have c4 : 1000 ≤ oc := by omega
       clear c0
       go_wp2_with fail
       obtain ⟨h1, h2, h3, h4⟩ := HRT.out (1000) (by omega)
       refine bodyPost_ret (v := .slice (some ⟨b0, o0, none⟩) (1000) oc) (by simp [results, Tryz.results58, go_sem]) rfl ⟨_, T0.take (1000), rfl, by rw [h4]; exact h1, h2, h3, HB.out⟩
      ·have c3 : max 0 (T0.length : Int) = T0.length := by omega
       clear c0
       go_wp2_with fail
       obtain ⟨h1, h2, h3, h4⟩ := HRT.out (T0.length) (by omega)
       refine bodyPost_ret (v := .slice (some ⟨b0, o0, none⟩) (T0.length) oc) (by simp [results, Tryz.results58, go_sem]) rfl ⟨_, T0.take (T0.length), rfl, by rw [h4]; exact h1, h2, h3, HB.out⟩
end Go.Proofs.YtcmdhfccdkjenaaGreatDoor
