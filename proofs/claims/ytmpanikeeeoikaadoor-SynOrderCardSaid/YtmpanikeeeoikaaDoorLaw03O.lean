/- The statement SynOrder: the walk of the law. -/
import Derived.Test.YtmpanikeeeoikaaDoorSynSort
import Derived.Test.YtmpanikeeeoikaaDoorLaw03
import Derived.Test.YtmpanikeeeoikaaDoorTwoAt
namespace Go.Proofs.YtmpanikeeeoikaaDoor
open Go.RowKit Go.Shelf

theorem neg_wrap {c : Int} (h : sgn c) : IntKind.i64.wrap (-c) = -c := by
  rcases h with rfl | rfl | rfl <;> rfl
def negI (c : Int) : Int := if c < 0 then -1 else 0
theorem negI_yes {c : Int} (h : c < 0) : negI c = -1 := if_pos h
theorem negI_no {c : Int} (h : ¬ c < 0) : negI c = 0 := if_neg h
theorem cmp_eq (s t : St) : (cmpSt s t == 0) = eqSt s t := by
  rw [Bool.eq_iff_iff, beq_iff_eq, eqSt, decide_eq_true_iff]; exact cmpSt_zero s t

set_option maxRecDepth 100000 in
set_option maxHeartbeats 8000000 in
theorem law3_SynOrder (s s' : St) (va : Value) (l : List St) (w : World) (hg : Gl w) (hs : s.le 9223372036854775807) (hs' : s'.le 9223372036854775807) (hl : ∀ x ∈ l, x.le 9223372036854775807) (ha : SlA w 9 va l.length (l.flatMap St.cells)) :
    Calls Tryd.prog 3 #[sv s, sv s', va] w fun e w' => e = .returned (.bool true) ∧ Below w.heap.size w w' := by
  have HL := Lib.hid (fun W (h : Gl W) => law3_lives W h)
  have HLa := Lib.hid (fun W => law3_Light s W hs)
  have HLb := Lib.hid (fun W => law3_Light s' W hs')
  have HLl := Lib.hid (fun W i (h : i < l.length) => law3_Light l[i] W (hl _ (List.getElem_mem h)))
  have HG := Lib.hid hg
  have HA := Lib.hid ha
  have SG := Lib.hid (sgn_st s s')
  have NG := Lib.hid (wcmp_st.neg s s')
  have CE := Lib.hid (cmp_eq s s')
  have B1 := Lib.hid (fun W => ref3_Before s s' W)
  have B2 := Lib.hid (fun W => ref3_Before s' s W)
  have O1 := Lib.hid (fun W => syn_Order s s' W)
  have O2 := Lib.hid (fun W => syn_Order s' s W)
  have L1 := Lib.hid (fun W => syn_Less s.a s'.a W)
  have L2 := Lib.hid (fun W => ref3_Less s.a s'.a W)
  have S1 := Lib.hid (fun W h h' => syn_Sort va l W h h')
  have S2 := Lib.hid (fun W h h' => ref3_Sort va l W h h')
  generalize cmpSt s' s = c' at NG B2 O2
  generalize cmpSt s s' = c at SG NG CE B1 O1
  generalize lessR s.a s'.a = lt at L1 L2
  have hEq := stmt_eql'
  obtain ⟨k, ⟨h1, h2⟩, who, ⟨a1, a2⟩, ⟨b1, b2⟩, via⟩ := s
  obtain ⟨k', ⟨h1', h2'⟩, who', ⟨a1', a2'⟩, ⟨b1', b2'⟩, via'⟩ := s'
  have hmax := ha.max
  obtain ⟨ao, cap, hva⟩ := ha.form
  subst hva
  clear hs hs' hg hl ha
  have T0 := Lib.hid (show TwoAt w #[.int .i64 k, .string h1, .string h2, .string who, .string a1, .string a2, .string b1, .string b2, .string via] #[.int .i64 k', .string h1', .string h2', .string who', .string a1', .string a2', .string b1', .string b2', .string via'] ((w.alloc (.cells #[.int .i64 k, .string h1, .string h2, .string who, .string a1, .string a2, .string b1, .string b2, .string via] 25)).alloc (.cells #[.int .i64 k', .string h1', .string h2', .string who', .string a1', .string a2', .string b1', .string b2', .string via'] 25))
    from ⟨(Blk.new w _ _).alloc _, (by have := Blk.new (w.alloc (.cells #[.int .i64 k, .string h1, .string h2, .string who, .string a1, .string a2, .string b1, .string b2, .string via] 25)) #[.int .i64 k', .string h1', .string h2', .string who', .string a1', .string a2', .string b1', .string b2', .string via'] 25; simpa using this), ((Below.refl _ _).alloc (Nat.le_refl _) _).alloc (by simp) _⟩)
  go_enter Tryd.func3, Tryd.ntmps3
  by_cases h20 : 20 < l.length
  · have d : decide ((20 : Int) < (l.length : Int)) = true := by (rw [decide_eq_true_iff]; omega)
    have htw := T0.out.low
    go_wp2_with (go_at_call 5; refine (HL.out _ ?_).mono ?_; exact HG.out.below htw; rintro e w6 ⟨rfl, hb6⟩)
    go_ret
    exact ⟨rfl, htw.trans (hb6.mono htw.size)⟩
  have d : decide ((20 : Int) < (l.length : Int)) = false := by (rw [decide_eq_false_iff_not]; omega)
  have hl1000 : l.length ≤ 1000 := by omega
  have S1 := Lib.hid (fun W h => S1.out W h hl1000)
  have S2 := Lib.hid (fun W h => S2.out W h hl1000)
  obtain ⟨ca, fa, za⟩ := T0.out.a
  obtain ⟨cb, fb, zb⟩ := T0.out.b
  go_wp2_with fail
  refine (HLa.out _).mono ?_
  rintro e w2 ⟨ba, rfl, hla, hb2⟩
  have T2 := Lib.hid (T0.out.later hb2)
  have htw2 := T2.out.low
  obtain ⟨ca, fa, za⟩ := T2.out.a
  obtain ⟨cb, fb, zb⟩ := T2.out.b
  clear hla hb2
  cases ba with
  | false =>
    go_wp2_with (go_at_call 5; refine (HL.out _ ?_).mono ?_; exact HG.out.below htw2; rintro e w6 ⟨rfl, hb6⟩)
    go_ret
    exact ⟨rfl, htw2.trans (hb6.mono htw2.size)⟩
  | true =>
    clear htw2
    go_wp2_with fail
    refine (HLb.out _).mono ?_
    rintro e w3 ⟨bb, rfl, hlb, hb3⟩
    have T3 := Lib.hid (T2.out.later hb3)
    have htw3 := T3.out.low
    obtain ⟨ca, fa, za⟩ := T3.out.a
    obtain ⟨cb, fb, zb⟩ := T3.out.b
    clear hlb hb3
    cases bb with
    | false =>
      go_wp2_with (go_at_call 5; refine (HL.out _ ?_).mono ?_; exact HG.out.below htw3; rintro e w6 ⟨rfl, hb6⟩)
      go_ret
      exact ⟨rfl, htw3.trans (hb6.mono htw3.size)⟩
    | true =>
      clear htw3
      go_wp2_with fail
      go_loopw [26] (fun i wr => ∃ n : Nat, n ≤ l.length ∧ i = .int .i64 n ∧ Hid (TwoAt w #[.int .i64 k, .string h1, .string h2, .string who, .string a1, .string a2, .string b1, .string b2, .string via] #[.int .i64 k', .string h1', .string h2', .string who', .string a1', .string a2', .string b1', .string b2', .string via'] wr)) (fun i _ => l.length - (intOf i).toNat)
      case atStart => exact ⟨0, by omega, rfl, T3⟩
      case round =>
        obtain ⟨n, hn, rfl, TR⟩ := hrel
        have htr := TR.out.low
        obtain ⟨ca, fa, za⟩ := TR.out.a
        obtain ⟨cb, fb, zb⟩ := TR.out.b
        by_cases hlt : n < l.length
        · obtain ⟨b3, o3, c3, he3, hc3, hm3, hb3, hx3⟩ := HA.out.pos (by omega)
          simp only [Value.slice.injEq, true_and] at he3
          obtain ⟨rfl, rfl⟩ := he3
          obtain ⟨p0, p1, p2, p3, p4, p5, p6, p7, p8⟩ := st_cell (w := wr) (fun j u hu => (htr.cell (p := ⟨b3, o3 + j, none⟩) hb3).trans (hx3 j u hu)) n hlt
          have hbr : b3 < wr.heap.size := Nat.lt_of_lt_of_le hb3 htr.size
          have AL := Lib.hid (fun W => HLl.out W n hlt)
          clear hx3 htr
          go_wp2_with fail
          refine (AL.out _).mono ?_
          rintro e w4 ⟨bl, rfl, hll, hb4⟩
          have T4 := Lib.hid ((TR.out.alloc _).later hb4)
          have htw4 := T4.out.low
          obtain ⟨ca, fa, za⟩ := T4.out.a
          obtain ⟨cb, fb, zb⟩ := T4.out.b
          clear hll hb4
          cases bl with
          | false =>
            go_wp2_with (go_at_call 5; refine (HL.out _ ?_).mono ?_; exact HG.out.below htw4; rintro e w6 ⟨rfl, hb6⟩)
            go_ret
            exact ⟨rfl, htw4.trans (hb6.mono htw4.size)⟩
          | true =>
            clear htw4
            go_wp2
            exact ⟨⟨n + 1, by omega, by go_num, T4⟩, by simp [intOf]; omega⟩
        · clear htr
          go_wp2_with fail
          refine (B1.out _).mono ?_
          rintro e w5 ⟨rfl, hb5⟩
          have T5 := Lib.hid (TR.out.later hb5)
          obtain ⟨ca, fa, za⟩ := T5.out.a
          obtain ⟨cb, fb, zb⟩ := T5.out.b
          clear hb5
          go_upto_if 37 with fail
          go_cut [9] (fun s9 wx => s9 = .int .i64 (negI c) ∧ Hid (TwoAt w #[.int .i64 k, .string h1, .string h2, .string who, .string a1, .string a2, .string b1, .string b2, .string via] #[.int .i64 k', .string h1', .string h2', .string who', .string a1', .string a2', .string b1', .string b2', .string via'] wx))
          case first =>
            by_cases hc : c < 0
            · have d1 : decide (c < 0) = true := decide_eq_true hc
              rw [d1]
              have hn := Lib.hid (negI_yes hc)
              clear hc
              go_wp2_with fail
              go_meet
              exact ⟨congrArg (Value.int .i64) hn.out.symm, T5⟩
            · have d1 : decide (c < 0) = false := decide_eq_false hc
              rw [d1]
              have hn := Lib.hid (negI_no hc)
              clear hc
              go_wp2_with fail
              go_meet
              exact ⟨congrArg (Value.int .i64) hn.out.symm, T5⟩
          case rest =>
            obtain ⟨rfl, T6⟩ := hcut
            obtain ⟨ca, fa, za⟩ := T6.out.a
            obtain ⟨cb, fb, zb⟩ := T6.out.b
            go_wp2_with fail
            refine (B2.out _).mono ?_
            rintro e w7 ⟨rfl, hb7⟩
            have T7 := Lib.hid (T6.out.later hb7)
            obtain ⟨ca, fa, za⟩ := T7.out.a
            obtain ⟨cb, fb, zb⟩ := T7.out.b
            clear hb7
            go_upto_if 40 with fail
            go_cut [9] (fun s9 wx => s9 = .int .i64 c ∧ Hid (TwoAt w #[.int .i64 k, .string h1, .string h2, .string who, .string a1, .string a2, .string b1, .string b2, .string via] #[.int .i64 k', .string h1', .string h2', .string who', .string a1', .string a2', .string b1', .string b2', .string via'] wx))
            case first =>
              by_cases hc : c' < 0
              · have d1 : decide (c' < 0) = true := decide_eq_true hc
                rw [d1]
                have hn := Lib.hid (show c = 1 by have := SG.out; have := NG.out; unfold sgn at *; omega)
                clear hc
                go_wp2_with fail
                go_meet
                exact ⟨congrArg (Value.int .i64) hn.out.symm, T7⟩
              · have d1 : decide (c' < 0) = false := decide_eq_false hc
                rw [d1]
                have hn := Lib.hid (show negI c = c by have := SG.out; have := NG.out; unfold sgn negI at *; split <;> omega)
                clear hc
                go_wp2_with fail
                go_meet
                exact ⟨congrArg (Value.int .i64) hn.out, T7⟩
            case rest =>
              obtain ⟨rfl, T8⟩ := hcut
              have HT : TwoAt w #[.int .i64 k, .string h1, .string h2, .string who, .string a1, .string a2, .string b1, .string b2, .string via] #[.int .i64 k', .string h1', .string h2', .string who', .string a1', .string a2', .string b1', .string b2', .string via'] wc.drew := T8.out.drew
              obtain ⟨ca, fa, za⟩ := T8.out.a
              obtain ⟨cb, fb, zb⟩ := T8.out.b
              have hw := neg_wrap SG.out
              have d2 := CE.out
              have d4 := congrArg (fun b => ((c == 0) == b)) CE.out.symm
              simp only [beq_self_eq_true] at d4
              have d3 : (c' == -c) = true := by rw [NG.out, beq_iff_eq]
              go_upto_region 14 with fail
              go_region_held3 (fun W => (∀ o, W.cell? ⟨w.heap.size, o, none⟩ = (#[.int .i64 k, .string h1, .string h2, .string who, .string a1, .string a2, .string b1, .string b2, .string via] : Array Value)[o]?) ∧ (∀ o, W.cell? ⟨w.heap.size + 1, o, none⟩ = (#[.int .i64 k', .string h1', .string h2', .string who', .string a1', .string a2', .string b1', .string b2', .string via'] : Array Value)[o]?))
                (first | exact ⟨HT.a.1, HT.b.1⟩ | go_keep)
                (first
                  | (go_at_call_of 7 (#[Value.agg #[.int .i64 k, .string h1, .string h2, .string who, .string a1, .string a2, .string b1, .string b2, .string via], Value.agg #[.int .i64 k', .string h1', .string h2', .string who', .string a1', .string a2', .string b1', .string b2', .string via']] : Array Value); refine (O1.out _).mono ?_; rintro e wq ⟨rfl, hgq⟩; have HT := HT.later hgq.below; have cq1 := HT.a.1; have cq2 := HT.b.1)
                  | (go_at_call_of 7 (#[Value.agg #[.int .i64 k', .string h1', .string h2', .string who', .string a1', .string a2', .string b1', .string b2', .string via'], Value.agg #[.int .i64 k, .string h1, .string h2, .string who, .string a1, .string a2, .string b1, .string b2, .string via]] : Array Value); refine (O2.out _).mono ?_; rintro e wq ⟨rfl, hgq⟩; have HT := HT.later hgq.below; have cq1 := HT.a.1; have cq2 := HT.b.1)
                  | (go_at_call 8; refine (L1.out _).mono ?_; rintro e wq ⟨rfl, hbq⟩; have HT := HT.later hbq; have cq1 := HT.a.1; have cq2 := HT.b.1)
                  | (go_at_call 9; refine (L2.out _).mono ?_; rintro e wq ⟨rfl, hbq⟩; have HT := HT.later hbq; have cq1 := HT.a.1; have cq2 := HT.b.1)
                  | (go_at_call 11; refine (S1.out _ (HA.out.below HT.low)).mono ?_; rintro e wq ⟨vq, rfl, hslq, hbq⟩; have HSQ := Lib.hid hslq; have HT := HT.later hbq; have cq1 := HT.a.1; have cq2 := HT.b.1)
                  | (go_at_call 12; refine (S2.out _ (HA.out.below HT.low)).mono ?_; rintro e wq ⟨vr, rfl, hslr, hbq⟩; have HSQ := Lib.hid (HSQ.out.below hbq); have HSR := Lib.hid hslr; have HT := HT.later hbq; have cq1 := HT.a.1; have cq2 := HT.b.1)
                  | (go_at_call 10; refine (ref3_Same _ _ _ _ _ HSQ.out.a HSR.out.a).mono ?_; rintro e wq ⟨rfl, nq, rfl⟩; have hyes : decide (insAll [] l = insAll [] l) = true := decide_eq_true rfl; have HT := HT.later (below_of_drewN nq); have cq1 := HT.a.1; have cq2 := HT.b.1)
                  | (go_at_call 5; refine (HL.out _ ?_).mono ?_; exact HG.out.below HT.low; rintro e wq ⟨rfl, hbq⟩; have HT := HT.later hbq; have cq1 := HT.a.1; have cq2 := HT.b.1))
              go_wp2
              go_ret
              exact ⟨rfl, HT.low⟩
end Go.Proofs.YtmpanikeeeoikaaDoor
