/- The statement StateRows: the walk of the law. -/
import Derived.Test.YtmpanikeeeoikaaStMay
import Derived.Test.YtmpanikeeeoikaaStOf
import Derived.Test.YtmpanikeeeoikaaOneAt
namespace Go.Proofs.Ytmpanikeeeoikaa
open Go.RowKit Go.Shelf

def rightK (l : List St) (k : Nat) : Bool := decide (l = ord l) && (l.take k).all rightS
theorem rightK_step (l : List St) (k : Nat) (h : k < l.length) : rightK l (k + 1) = (rightK l k && rightS l[k]) := by
  unfold rightK
  rw [List.take_succ_eq_append_getElem h, List.all_append, Bool.and_assoc]
  simp
theorem rightK_zero (l : List St) : rightK l 0 = decide (l = ord l) := by simp [rightK]
theorem rightK_end (l : List St) : rightK l l.length = isS l := by
  unfold rightK
  rw [List.take_length, Bool.eq_iff_iff, isS_iff, Bool.and_eq_true, decide_eq_true_iff, List.all_eq_true]
  constructor
  · rintro ⟨h1, h2⟩
    exact ⟨h2, by rw [h1]; exact ord_asc l⟩
  · rintro ⟨h1, h2⟩
    exact ⟨(asc_ord h2).symm, h1⟩
theorem ref3_SameT (va vb : Value) (l : List St) (w : World) (ha : SlA w 9 va l.length (l.flatMap St.cells)) (hb : SlA w 9 vb l.length (l.flatMap St.cells)) :
    Calls Try.prog 13 #[va, vb] w fun e w' => e = .returned (.bool true) ∧ Below w.heap.size w w' :=
  (ref3_Same va vb l l w ha hb).mono fun e w' ⟨he, n, hn⟩ => ⟨by rw [he, decide_eq_true rfl], by rw [hn]; exact below_of_drewN n⟩

theorem ref3_SameB (va vb : Value) (l m : List St) (w : World) (ha : SlA w 9 va l.length (l.flatMap St.cells)) (hb : SlA w 9 vb m.length (m.flatMap St.cells)) :
    Calls Try.prog 13 #[va, vb] w fun e w' => e = .returned (.bool (decide (l = m))) ∧ Below w.heap.size w w' :=
  (ref3_Same va vb l m w ha hb).mono fun e w' ⟨he, n, hn⟩ => ⟨he, by rw [hn]; exact below_of_drewN n⟩
theorem state_SameB (va vb : Value) (l m : List St) (w : World) (ha : SlA w 9 va l.length (l.flatMap St.cells)) (hb : SlA w 9 vb m.length (m.flatMap St.cells)) :
    Calls Try.prog 22 #[va, vb] w fun e w' => e = .returned (.bool (decide (l = m))) ∧ Below w.heap.size w w' :=
  (state_Same va vb l m w ha hb).mono fun e w' ⟨he, n, hn⟩ => ⟨he, by rw [hn]; exact below_of_drewN n⟩

set_option maxRecDepth 100000 in
set_option maxHeartbeats 8000000 in
theorem law10_StateRows (va vb : Value) (l m : List St) (s : St) (w : World) (ha : SlA w 9 va l.length (l.flatMap St.cells)) (hb : SlA w 9 vb m.length (m.flatMap St.cells)) (hl : allLe l 9223372036854775807) (hm : allLe m 9223372036854775807) (hs : s.le 9223372036854775807) :
    Calls Try.prog 5 #[va, vb, sv s] w fun e w' => e = .returned (.bool true) ∧ Below w.heap.size w w' := by
  have HL := Lib.hid (fun W => law10_lives W)
  have HLa := Lib.hid (fun W h => law10_Light va l W h hl)
  have HLb := Lib.hid (fun W h => law10_Light vb m W h hm)
  have HLs := Lib.hid (fun W => law3_Light s W hs)
  have HA := Lib.hid ha
  have HB := Lib.hid hb
  have hmaxl := ha.max
  obtain ⟨ao, ac, hva⟩ := ha.form
  obtain ⟨bo, bc, hvb⟩ := hb.form
  subst hva hvb
  have hse : s = ⟨s.k, ⟨s.h.o, s.h.n⟩, s.who, ⟨s.a.o, s.a.n⟩, ⟨s.b.o, s.b.n⟩, s.via⟩ := rfl
  clear ha hb hl hm hs
  obtain ⟨k, ⟨h1, h2⟩, who, ⟨a1, a2⟩, ⟨b1, b2⟩, via⟩ := s
  clear hse
  have T0 := Lib.hid (show OneAt w #[.int .i64 k, .string h1, .string h2, .string who, .string a1, .string a2, .string b1, .string b2, .string via] (w.alloc (.cells #[.int .i64 k, .string h1, .string h2, .string who, .string a1, .string a2, .string b1, .string b2, .string via] 30)) from ⟨Blk.new w _ _, (Below.refl _ _).alloc (Nat.le_refl _) _⟩)
  go_enter Try.func5, Try.ntmps5
  go_wp2_with fail
  refine (HLa.out _ (HA.out.below T0.out.low)).mono ?_
  rintro e w1 ⟨ba, rfl, hla, hb1⟩
  have T1 := Lib.hid (T0.out.later hb1)
  have HLA := Lib.hid hla
  clear hla hb1 T0
  cases ba with
  | false =>
    go_wp2_with fail
    refine (HL.out _).mono ?_
    rintro e w6 ⟨rfl, hb6⟩
    have T6 := Lib.hid (T1.out.later hb6)
    clear hb6
    go_wp2
    go_ret
    exact ⟨rfl, T6.out.low⟩
  | true =>
  go_wp2_with fail
  refine (HLb.out _ (HB.out.below T1.out.low)).mono ?_
  rintro e w2 ⟨bb, rfl, hlb, hb2⟩
  have T2 := Lib.hid (T1.out.later hb2)
  have HLB := Lib.hid hlb
  clear hlb hb2 T1
  cases bb with
  | false =>
    go_wp2_with fail
    refine (HL.out _).mono ?_
    rintro e w6 ⟨rfl, hb6⟩
    have T6 := Lib.hid (T2.out.later hb6)
    clear hb6
    go_wp2
    go_ret
    exact ⟨rfl, T6.out.low⟩
  | true =>
  obtain ⟨ca, fa, za⟩ := T2.out.a
  go_wp2_with fail
  refine (HLs.out _).mono ?_
  rintro e w3 ⟨bs, rfl, hls, hb3⟩
  have T3 := Lib.hid (T2.out.later hb3)
  have HLS := Lib.hid hls
  clear hls hb3 T2 ca fa za
  cases bs with
  | false =>
    go_wp2_with fail
    refine (HL.out _).mono ?_
    rintro e w6 ⟨rfl, hb6⟩
    have T6 := Lib.hid (T3.out.later hb6)
    clear hb6
    go_wp2
    go_ret
    exact ⟨rfl, T6.out.low⟩
  | true =>
  have LA := Lib.hid (HLA.out (by first | rfl | trivial)).2
  have LB := Lib.hid (HLB.out (by first | rfl | trivial)).2
  have hl40 : l.length ≤ 40 := (HLA.out (by first | rfl | trivial)).1
  have hm40 : m.length ≤ 40 := (HLB.out (by first | rfl | trivial)).1
  have LS := Lib.hid (HLS.out (by first | rfl | trivial))
  clear HLA HLB HLS HLa HLb HLs
  have SA := Lib.hid (fun W h => ref3_Sort (.slice ao l.length ac) l W h (by omega))
  change Hid (∀ W, SlA W 9 (.slice ao l.length ac) l.length (l.flatMap St.cells) → Calls Try.prog 25 _ W fun e w' => ∃ v, e = .returned v ∧ Sl w' 9 v (ord l).length ((ord l).flatMap St.cells) ∧ Below W.heap.size W w') at SA
  have hlo := ord_len l
  go_wp2_with fail
  refine (SA.out _ (HA.out.below T3.out.low)).mono ?_
  rintro e w4 ⟨v1, rfl, hs4, hb4⟩
  have T4 := Lib.hid (T3.out.later hb4)
  have HS4 := Lib.hid hs4
  clear hs4 hb4 T3
  have SM := Lib.hid (ref3_Same (.slice ao l.length ac) v1 l (ord l) w4 (HA.out.below T4.out.low) HS4.out.a)
  rw [← rightK_zero] at SM
  have RS := Lib.hid (fun k h => rightK_step l k h)
  have RE := Lib.hid (rightK_end l)
  generalize rightK l = R at SM RS RE
  go_wp2_with fail
  refine SM.out.mono ?_
  rintro e w5 ⟨rfl, n5, rfl⟩
  have T5 := Lib.hid (T4.out.later (below_of_drewN n5))
  clear SM HS4 T4
  go_wp2_with fail
  go_loopw [7, 33] (fun rv i wr => ∃ n : Nat, n ≤ l.length ∧ i = .int .i64 n ∧ rv = .bool (R n) ∧ Hid (OneAt w #[.int .i64 k, .string h1, .string h2, .string who, .string a1, .string a2, .string b1, .string b2, .string via] wr)) (fun _ i _ => l.length - (intOf i).toNat)
  case atStart => exact ⟨0, by omega, rfl, rfl, T5⟩
  case round =>
    obtain ⟨n, hn, rfl, rfl, TR⟩ := hrel
    by_cases hlt : n < l.length
    · obtain ⟨b3, o3, c3, he3, hc3, hm3, hb3, hx3⟩ := HA.out.pos (by omega)
      simp only [Value.slice.injEq, true_and] at he3
      obtain ⟨rfl, rfl⟩ := he3
      obtain ⟨p0, p1, p2, p3, p4, p5, p6, p7, p8⟩ := st_cell (w := wr) (fun j u hu => (TR.out.low.cell (p := ⟨b3, o3 + j, none⟩) hb3).trans (hx3 j u hu)) n hlt
      have hbr : b3 < wr.heap.size := Nat.lt_of_lt_of_le hb3 TR.out.low.size
      have RI := Lib.hid (fun W => ref3_Right l[n] W ((LA.out _ (List.getElem_mem hlt)).mono (by decide)))
      have RN := Lib.hid (RS.out n hlt)
      clear hx3
      cases hR : R n with
      | false =>
        have e1 := Lib.hid (show R (n + 1) = false by rw [RN.out, hR]; rfl)
        clear hR
        go_wp2
        exact ⟨⟨n + 1, by omega, by go_num, by rw [e1.out], Lib.hid (TR.out.alloc _)⟩, by simp [intOf]; omega⟩
      | true =>
        have e1 := Lib.hid (show R (n + 1) = rightS l[n] by rw [RN.out, hR]; rfl)
        clear hR
        go_wp2_with fail
        refine (RI.out _).mono ?_
        rintro e w7 ⟨rfl, hb7⟩
        have T7 := Lib.hid ((TR.out.alloc _).later hb7)
        clear hb7
        go_wp2
        exact ⟨⟨n + 1, by omega, by go_num, by rw [e1.out], T7⟩, by simp [intOf]; omega⟩
    · obtain rfl : n = l.length := by omega
      rw [RE.out]
      clear RS RE
      clear hn hlt
      go_wp2_with fail
      refine (SA.out _ (HA.out.below TR.out.low)).mono ?_
      rintro e w8 ⟨v2, rfl, hs8, hb8⟩
      have T8 := Lib.hid (TR.out.later hb8)
      have HS8 := Lib.hid hs8
      clear hs8 hb8 TR
      obtain ⟨q, hq⟩ : ∃ q, q = ord l := ⟨_, rfl⟩
      have HQ := Lib.hid hq
      rw [← hq] at HS8 hlo
      clear hq
      have hmaxq := HS8.out.max
      obtain ⟨qo, qc, hv2⟩ := HS8.out.form
      subst hv2
      have hEr := role_eql
      go_wp2_with fail
      go_loopw [10, 46] (fun vo i wr => ∃ n : Nat, n ≤ q.length ∧ i = .int .i64 n ∧ Hid (OneAt w #[.int .i64 k, .string h1, .string h2, .string who, .string a1, .string a2, .string b1, .string b2, .string via] wr) ∧ Hid (Below w8.heap.size w8 wr) ∧ Hid (wr.ownsRow w8.heap.size 30 9 vo ((q.take n).filter fun x => eqRl x.h ⟨h1, h2⟩).length (((q.take n).filter fun x => eqRl x.h ⟨h1, h2⟩).flatMap St.cells))) (fun _ i _ => q.length - (intOf i).toNat)
      case atStart => exact ⟨0, by omega, rfl, T8, Lib.hid (Below.refl _ _), Lib.hid (World.ownsRow_nil _ _ _ _)⟩
      case round =>
        obtain ⟨n, hn, rfl, TR, HW, HO⟩ := hrel
        obtain ⟨oo, oc, rfl⟩ := own_form HO.out
        by_cases hlt : n < q.length
        · obtain ⟨b3, o3, c3, he3, hc3, hm3, hb3, hx3⟩ := HS8.out.pos (by omega)
          simp only [Value.slice.injEq, true_and] at he3
          obtain ⟨rfl, rfl⟩ := he3
          obtain ⟨p0, p1, p2, p3, p4, p5, p6, p7, p8⟩ := st_cell (w := wr) (fun j u hu => (HW.out.cell (p := ⟨b3, o3 + j, none⟩) hb3).trans (hx3 j u hu)) n hlt
          have hbr : b3 < wr.heap.size := Nat.lt_of_lt_of_le hb3 HW.out.size
          have FY := Lib.hid (fun h => filter_yes (p := fun x => eqRl x.h ⟨h1, h2⟩) hlt h)
          have FN := Lib.hid (fun h => filter_no (p := fun x => eqRl x.h ⟨h1, h2⟩) hlt h)
          have hlk : ((q.take n).filter fun x => eqRl x.h ⟨h1, h2⟩).length ≤ q.length := Nat.le_trans (List.length_filter_le _ _) (by simp; omega)
          have hek : q[n] = ⟨q[n].k, ⟨q[n].h.o, q[n].h.n⟩, q[n].who, ⟨q[n].a.o, q[n].a.n⟩, ⟨q[n].b.o, q[n].b.n⟩, q[n].via⟩ := rfl
          clear hx3
          generalize q[n] = x at *
          obtain ⟨xk, ⟨x1, x2⟩, xw, ⟨x3, x4⟩, ⟨x5, x6⟩, xv⟩ := x
          clear hek
          have HW1 := Lib.hid (HW.out.alloc HW.out.size (.cells #[.int .i64 xk, .string x1, .string x2, .string xw, .string x3, .string x4, .string x5, .string x6, .string xv] 30))
          have T9 := Lib.hid (TR.out.alloc (.cells #[.int .i64 xk, .string x1, .string x2, .string xw, .string x3, .string x4, .string x5, .string x6, .string xv] 30))
          have HBK := Lib.hid (Blk.new wr #[.int .i64 xk, .string x1, .string x2, .string xw, .string x3, .string x4, .string x5, .string x6, .string xv] 30)
          have HO2 := Lib.hid (own_below HO.out ((Below.refl _ wr).alloc (Nat.le_refl _) (.cells #[.int .i64 xk, .string x1, .string x2, .string xw, .string x3, .string x4, .string x5, .string x6, .string xv] 30)))
          obtain ⟨ca, fa, za⟩ := TR.out.a
          cases px : eqRl ⟨x1, x2⟩ ⟨h1, h2⟩ with
          | false =>
            have e1 := Lib.hid (FN.out px)
            clear FY FN
            go_wp2_with fail
            exact ⟨⟨n + 1, by omega, by go_num, T9, HW1, Lib.hid (by rw [e1.out]; exact HO2.out)⟩, by simp [intOf]; omega⟩
          | true =>
            have e1 := Lib.hid (FY.out px)
            clear FY FN
            have hown := HO2.out
            go_wp2_with (at_builtin; refine halt_ ?_)
            unfold Halt_
            refine app_own Try.underlying22 st_info rfl (by decide) (by decide) rfl _ _ rfl w8.heap.size rfl (hown.alloc _) [.int .i64 xk, .string x1, .string x2, .string xw, .string x3, .string x4, .string x5, .string x6, .string xv] rfl (heap_new2 _ _ _) rfl (st_one ⟨xk, ⟨x1, x2⟩, xw, ⟨x3, x4⟩, ⟨x5, x6⟩, xv⟩) ?_ ?_ ?_
            · omega
            · have := HW1.out.size; simp at this ⊢; omega
            intro a' cap' w3 hown' hgrow
            have HO3 := Lib.hid (show w3.ownsRow w8.heap.size 30 9 _ (((q.take (n + 1)).filter fun x => eqRl x.h ⟨h1, h2⟩).length) (((q.take (n + 1)).filter fun x => eqRl x.h ⟨h1, h2⟩).flatMap St.cells) by rw [e1.out, flat_snoc, List.length_append]; exact hown')
            have hb3w := below_own (HW1.out.alloc HW1.out.size (.cells #[.int .i64 xk, .string x1, .string x2, .string xw, .string x3, .string x4, .string x5, .string x6, .string xv] 30)) (hown.alloc _) hgrow (by have := HW1.out.size; simp at this ⊢; omega) (Nat.le_refl _)
            have HW3 := Lib.hid hb3w
            have T10 := Lib.hid (T8.out.later hb3w)
            clear hown' hgrow hown hb3w
            go_wp2_with fail
            refine ⟨⟨n + 1, by omega, by go_num, T10, HW3, ?_⟩, by simp [intOf]; omega⟩
            rw [e1.out, List.length_append] at HO3
            rw [e1.out, List.length_append]
            exact HO3
        · have e1 := Lib.hid (show q.take n = q by rw [List.take_of_length_le (by omega)])
          have HAB := Lib.hid (show Sl wr 9 (.slice oo ((q.take n).filter fun x => eqRl x.h ⟨h1, h2⟩).length oc) (q.filter fun x => eqRl x.h ⟨h1, h2⟩).length ((q.filter fun x => eqRl x.h ⟨h1, h2⟩).flatMap St.cells) from by have := Sl.of_own HO.out; rw [e1.out] at this ⊢; exact this)
          clear e1 HO HW HS8 T8
          generalize ((q.take n).filter fun x => eqRl x.h ⟨h1, h2⟩).length = nab at HAB ⊢
          rw [HQ.out, ← ord_filter] at HAB
          clear HQ hlo
          have l4 : allLe l 4294967 := fun x hx => (LA.out x hx).mono (by decide)
          have C1 := Lib.hid (fun W h => state_Is (.slice ao l.length ac) l W h l4)
          have C2 := Lib.hid (fun W h => state_Has (.slice ao l.length ac) l ⟨k, ⟨h1, h2⟩, who, ⟨a1, a2⟩, ⟨b1, b2⟩, via⟩ W h)
          have C3 := Lib.hid (fun W h => ref3_Has (.slice ao l.length ac) l ⟨k, ⟨h1, h2⟩, who, ⟨a1, a2⟩, ⟨b1, b2⟩, via⟩ W h)
          have C4 := Lib.hid (fun W h h' => state_SameB (.slice ao l.length ac) (.slice bo m.length bc) l m W h h')
          have C5 := Lib.hid (fun W h h' => ref3_SameB (.slice ao l.length ac) (.slice bo m.length bc) l m W h h')
          have U1 := Lib.hid (fun W h h' => state_Union (.slice ao l.length ac) (.slice bo m.length bc) l m W h h' (by omega) (by omega))
          have U2 := Lib.hid (fun v W h => ref3_Sort v (l ++ m) W h (by rw [List.length_append]; omega))
          change Hid (∀ v W, SlA W 9 v (l ++ m).length ((l ++ m).flatMap St.cells) → Calls Try.prog 25 #[v] W fun e w' => ∃ v, e = .returned v ∧ Sl w' 9 v (ord (l ++ m)).length ((ord (l ++ m)).flatMap St.cells) ∧ Below W.heap.size W w') at U2
          have D1 := Lib.hid (fun W h h' => state_Minus (.slice ao l.length ac) (.slice bo m.length bc) l m W h h' (by omega))
          have D2 := Lib.hid (fun W h h' => ref10_Of (.slice ao l.length ac) (.slice bo m.length bc) l m W h h' (by omega))
          have E1 := Lib.hid (fun W h => state_About (.slice ao l.length ac) l ⟨h1, h2⟩ W h (by omega))
          simp only [← ord_filter] at D2
          generalize isS l = r1 at C1 ⊢
          generalize hasS l ⟨k, ⟨h1, h2⟩, who, ⟨a1, a2⟩, ⟨b1, b2⟩, via⟩ = r2 at C2 C3
          generalize decide (l = m) = r3 at C4 C5
          generalize ord (l ++ m) = lu at U1 U2
          generalize ord (l.filter fun x => !hasS m x) = lm at D1 D2
          generalize ord (l.filter fun x => eqRl x.h ⟨h1, h2⟩) = lab at E1 HAB
          have HV : Below wr.heap.size wr wr.drew := below_drew (Below.refl _ _)
          have HT : OneAt w #[.int .i64 k, .string h1, .string h2, .string who, .string a1, .string a2, .string b1, .string b2, .string via] wr.drew := TR.out.drew
          clear l4 hEr SA LS LA LB
          go_wp2_with fail
          go_region_held3 (fun W => ∀ o, W.cell? ⟨w.heap.size, o, none⟩ = (#[.int .i64 k, .string h1, .string h2, .string who, .string a1, .string a2, .string b1, .string b2, .string via] : Array Value)[o]?)
            (first | exact HT.a.1 | go_keep)
            (first
              | (go_at_call 27; refine (C1.out _ (HA.out.below HT.low)).mono ?_; rintro e wq ⟨rfl, hbq⟩; have HV := HV.trans (hbq.mono HV.size); have HT := HT.later hbq; have cq := HT.a.1)
              | (go_at_call 24; refine (C2.out _ (HA.out.below HT.low)).mono ?_; rintro e wq ⟨rfl, hbq⟩; have HV := HV.trans (hbq.mono HV.size); have HT := HT.later hbq; have cq := HT.a.1)
              | (go_at_call 28; refine (C3.out _ (HA.out.below HT.low)).mono ?_; rintro e wq ⟨rfl, hbq⟩; have HV := HV.trans (hbq.mono HV.size); have HT := HT.later hbq; have cq := HT.a.1)
              | (go_at_call 22; refine (C4.out _ (HA.out.below HT.low) (HB.out.below HT.low)).mono ?_; rintro e wq ⟨rfl, hbq⟩; have HV := HV.trans (hbq.mono HV.size); have HT := HT.later hbq; have cq := HT.a.1)
              | (go_at_call 13; refine (C5.out _ (HA.out.below HT.low) (HB.out.below HT.low)).mono ?_; rintro e wq ⟨rfl, hbq⟩; have HV := HV.trans (hbq.mono HV.size); have HT := HT.later hbq; have cq := HT.a.1))
          have HV := Lib.hid HV
          have HT := Lib.hid HT
          clear TR C1 C2 C3 C4 C5
          go_wp2_with fail
          refine (U1.out _ (HA.out.below HT.out.low) (HB.out.below HT.out.low)).mono ?_
          rintro e wU ⟨vu, rfl, hsu, hbu⟩
          have HSU := Lib.hid hsu
          have HV := Lib.hid (HV.out.trans (hbu.mono HV.out.size))
          have HT := Lib.hid (HT.out.later hbu)
          clear hsu hbu
          have own0 := (World.ownsRow_made (e := 30) (size := 9) wU #[] 0 (Nat.le_refl _) (Nat.zero_le _) (by simp))
          go_wp2_with (at_builtin; refine halt_ ?_)
          unfold Halt_
          refine app_row Try.underlying22 st_info rfl (by decide) (by decide) rfl _ _ rfl wU.heap.size rfl own0 rfl (HA.out.below (HT.out.low.alloc HT.out.low.size _)) (sts_one _) (by omega) (by simp) ?_
          intro x1 y1 wX hown1 hg1
          have hbX : Below wU.heap.size wU wX := below_own ((Below.refl _ wU).alloc (Nat.le_refl _) _) own0 hg1 (by simp) (Nat.le_refl _)
          have HBX := Lib.hid hbX
          have HO1 := Lib.hid (show wX.ownsRow wU.heap.size 30 9 (.slice x1 l.length y1) l.length (l.flatMap St.cells) by simpa using hown1)
          clear hown1 hg1 hbX own0
          go_wp2_with (at_builtin; refine halt_ ?_)
          unfold Halt_
          refine app_row Try.underlying22 st_info rfl (by decide) (by decide) rfl _ _ rfl wU.heap.size rfl HO1.out rfl (HB.out.below (HT.out.low.trans (HBX.out.mono HT.out.low.size))) (sts_one _) (by omega) HBX.out.size ?_
          intro x2 y2 wY hown2 hg2
          have hbY : Below wU.heap.size wU wY := below_own HBX.out HO1.out hg2 HBX.out.size (Nat.le_refl _)
          have HSY := Lib.hid (show Sl wY 9 (.slice x2 (l.length + m.length) y2) (l ++ m).length ((l ++ m).flatMap St.cells) by have := Sl.of_own hown2; rw [flat_app, List.length_append]; exact this)
          have HBY := Lib.hid hbY
          clear hown2 hg2 hbY HO1 HBX
          go_wp2_with fail
          refine (U2.out _ _ HSY.out.a).mono ?_
          rintro e wZ ⟨vz, rfl, hsz, hbz⟩
          have HSZ := Lib.hid hsz
          have HBZ := Lib.hid (HBY.out.trans (hbz.mono HBY.out.size))
          clear hsz hbz
          go_wp2_with fail
          refine (ref3_SameT vu vz lu wZ (HSU.out.below HBZ.out).a HSZ.out.a).mono ?_
          rintro e wq ⟨rfl, hbq⟩
          have HV := Lib.hid (HV.out.trans ((HBZ.out.trans (hbq.mono HBZ.out.size)).mono HV.out.size))
          have HT := Lib.hid (HT.out.later (HBZ.out.trans (hbq.mono HBZ.out.size)))
          clear hbq HBZ HSZ HSU HBY HSY U1 U2
          go_wp2_with fail
          refine (D1.out _ (HA.out.below HT.out.low) (HB.out.below HT.out.low)).mono ?_
          rintro e wq ⟨vm, rfl, hsm, hbq⟩
          have HSM := Lib.hid hsm
          have HV := Lib.hid (HV.out.trans (hbq.mono HV.out.size))
          have HT := Lib.hid (HT.out.later hbq)
          clear hsm hbq
          go_wp2_with fail
          refine (D2.out _ (HA.out.below HT.out.low) (HB.out.below HT.out.low)).mono ?_
          rintro e wq ⟨vo, rfl, hso, hbq⟩
          have HSO := Lib.hid hso
          have HSM := Lib.hid (HSM.out.below hbq)
          have HV := Lib.hid (HV.out.trans (hbq.mono HV.out.size))
          have HT := Lib.hid (HT.out.later hbq)
          clear hso hbq
          go_wp2_with fail
          refine (ref3_SameT vm vo lm _ HSM.out.a HSO.out.a).mono ?_
          rintro e wq ⟨rfl, hbq⟩
          have HV := Lib.hid (HV.out.trans (hbq.mono HV.out.size))
          have HT := Lib.hid (HT.out.later hbq)
          clear hbq HSM HSO D1 D2
          obtain ⟨ca, fa, za⟩ := HT.out.a
          go_wp2_with fail
          refine (E1.out _ (HA.out.below HT.out.low)).mono ?_
          rintro e wq ⟨vx, rfl, hsx, hbq⟩
          have HSX := Lib.hid hsx
          have HV := Lib.hid (HV.out.trans (hbq.mono HV.out.size))
          have HT := Lib.hid (HT.out.later hbq)
          clear hsx hbq ca fa za
          go_wp2_with fail
          refine (ref3_SameT vx _ lab _ HSX.out.a (HAB.out.below HV.out).a).mono ?_
          rintro e wq ⟨rfl, hbq⟩
          have HT := Lib.hid (HT.out.later hbq)
          clear hbq HSX HV HAB
          go_wp2_with fail
          refine (HL.out _).mono ?_
          rintro e w6 ⟨rfl, hb6⟩
          have T6 := Lib.hid (HT.out.later hb6)
          clear hb6
          go_wp2
          go_ret
          exact ⟨rfl, T6.out.low⟩
end Go.Proofs.Ytmpanikeeeoikaa
