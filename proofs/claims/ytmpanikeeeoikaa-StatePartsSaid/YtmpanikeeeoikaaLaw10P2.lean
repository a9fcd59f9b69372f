/- The statement StateParts: the walk of the law (printed by gen_parts.py). -/
import Derived.Test.YtmpanikeeeoikaaLaw10P
namespace Go.Proofs.Ytmpanikeeeoikaa
open Go.RowKit Go.Shelf

theorem sameT (va vb : Value) (l : List St) (w : World) (ha : Sl w 9 va l.length (l.flatMap St.cells)) (hb : Sl w 9 vb l.length (l.flatMap St.cells)) :
    Calls Try.prog 22 #[va, vb] w fun e w' => e = .returned (.bool true) ∧ Below w.heap.size w w' :=
  (state_SameB va vb l l w ha.a hb.a).mono fun e w' h => ⟨by rw [h.1, decide_eq_true rfl], h.2⟩
set_option maxRecDepth 100000 in
set_option maxHeartbeats 8000000 in
theorem law10_StateParts (v0 v1 v2 v3 vc : Value) (l m : List St) (g h : List Rl) (qs : List Qv) (w : World) (hp : PolAt w v0 v1 v2 v3 l g h qs) (hc : SlA w 9 vc m.length (m.flatMap St.cells)) (hm : allLe m 9223372036854775807) :
    Calls Try.prog 4 #[pv v0 v1 v2 v3, vc] w fun e w' => e = .returned (.bool true) ∧ Below w.heap.size w w' := by
  have HL := Lib.hid (fun W => law10_lives W)
  have HP := Lib.hid hp
  have HC := Lib.hid hc
  have LP := Lib.hid (fun W hb => law5_Light v0 v1 v2 v3 l g h qs W (hp.below (w' := W) hb))
  have LC := Lib.hid (fun W hb => law10_Light vc m W (hc.below (w' := W) hb) hm)
  obtain ⟨a0, c0, rfl⟩ := hp.rs.form
  obtain ⟨a1, c1, rfl⟩ := hp.rg.form
  obtain ⟨a2, c2, rfl⟩ := hp.rh.form
  obtain ⟨a3, c3, rfl⟩ := hp.rq.form
  obtain ⟨cm, cc, rfl⟩ := hc.form
  have HT := Lib.hid (show OneAt w #[.slice a0 l.length c0, .slice a1 g.length c1, .slice a2 h.length c2, .slice a3 qs.length c3] (w.alloc (.cells #[.slice a0 l.length c0, .slice a1 g.length c1, .slice a2 h.length c2, .slice a3 qs.length c3] 26)) from ⟨Blk.new w _ _, (Below.refl _ _).alloc (Nat.le_refl _) _⟩)
  clear hp hc hm
  go_enter Try.func4, Try.ntmps4
  go_wp2_with fail
  refine (LP.out _ HT.out.low).mono ?_
  rintro e w1 ⟨⟨bp, rfl, hlp⟩, hb1⟩
  have HT := Lib.hid (HT.out.later hb1)
  have HLP := Lib.hid hlp
  clear hlp hb1
  cases bp with
  | false =>
    go_wp2_with fail
    refine (HL.out _).mono ?_
    rintro e w6 ⟨rfl, hb6⟩
    have T6 := Lib.hid (HT.out.later hb6)
    clear hb6
    go_wp2
    go_ret
    exact ⟨rfl, T6.out.low⟩
  | true =>
  go_wp2_with fail
  refine (LC.out _ HT.out.low).mono ?_
  rintro e w2 ⟨bc, rfl, hlc, hb2⟩
  have HT := Lib.hid (HT.out.later hb2)
  have HLC := Lib.hid hlc
  clear hlc hb2
  cases bc with
  | false =>
    go_wp2_with fail
    refine (HL.out _).mono ?_
    rintro e w6 ⟨rfl, hb6⟩
    have T6 := Lib.hid (HT.out.later hb6)
    clear hb6
    go_wp2
    go_ret
    exact ⟨rfl, T6.out.low⟩
  | true =>
  have hl30 : l.length ≤ 30 := (HLP.out (by first | rfl | trivial)).1
  have hm40 : m.length ≤ 40 := (HLC.out (by first | rfl | trivial)).1
  clear HLP HLC LP LC
  have k1 := minus_len l m
  have k2 := minus_len l (minusS l m)
  have k3 := minus_len m l
  have k4 := minus_len m (minusS m l)
  have P1 := Lib.hid (parts1 l m)
  have P2 := Lib.hid (parts2 l m)
  have P3 := Lib.hid (parts3 l m)
  have P4 := Lib.hid (parts4 l)
  have P5 := Lib.hid (fun x h => parts5 (l := l) (m := m) (x := x) h)
  obtain ⟨ca, fa, za⟩ := HT.out.a
  go_wp2_with fail
  refine (stMinus (.slice a0 l.length c0) (.slice cm m.length cc) l m _ (HP.out.rs.below HT.out.low) (HC.out.below HT.out.low) (by omega)).mono ?_
  rintro e wq ⟨x1, rfl, hs, hbq⟩
  have HT := Lib.hid (HT.out.later hbq)
  have Hx1 := Lib.hid hs
  clear hs hbq
  clear ca fa za
  go_wp2_with fail
  refine (stMinus (.slice a0 l.length c0) x1 l (minusS l m) _ (HP.out.rs.below HT.out.low) Hx1.out.a (by omega)).mono ?_
  rintro e wq ⟨x2, rfl, hs, hbq⟩
  have Hx1 := Lib.hid (Hx1.out.below hbq)
  have HT := Lib.hid (HT.out.later hbq)
  have Hx2 := Lib.hid hs
  obtain ⟨bo, bc2, rfl⟩ := hs.form
  clear hs hbq
  clear Hx1
  go_wp2_with fail
  refine (stMinus (.slice a0 l.length c0) (.slice cm m.length cc) l m _ (HP.out.rs.below HT.out.low) (HC.out.below HT.out.low) (by omega)).mono ?_
  rintro e wq ⟨x3, rfl, hs, hbq⟩
  have Hx2 := Lib.hid (Hx2.out.below hbq)
  have HT := Lib.hid (HT.out.later hbq)
  have Hx3 := Lib.hid hs
  clear hs hbq
  go_wp2_with fail
  refine (stUnion (.slice bo (minusS l (minusS l m)).length bc2) x3 (minusS l (minusS l m)) (minusS l m) _ Hx2.out.a Hx3.out.a (by omega) (by omega)).mono ?_
  rintro e wq ⟨x4, rfl, hs, hbq⟩
  have Hx2 := Lib.hid (Hx2.out.below hbq)
  have Hx3 := Lib.hid (Hx3.out.below hbq)
  have HT := Lib.hid (HT.out.later hbq)
  have Hx4 := Lib.hid hs
  clear hs hbq
  clear Hx3
  go_wp2_with fail
  refine (stUnion (.slice a0 l.length c0) (.slice none 0 0) l [] _ (HP.out.rs.below HT.out.low) (Sl.nil _ _).a (by omega) (by simp)).mono ?_
  rintro e wq ⟨x5, rfl, hs, hbq⟩
  have Hx2 := Lib.hid (Hx2.out.below hbq)
  have Hx4 := Lib.hid (Hx4.out.below hbq)
  have HT := Lib.hid (HT.out.later hbq)
  have Hx5 := Lib.hid hs
  clear hs hbq
  rw [P1.out] at Hx4
  go_wp2_with fail
  refine (sameT x4 x5 (unionS l []) _ Hx4.out Hx5.out).mono ?_
  rintro e wq ⟨rfl, hbq⟩
  have Hx2 := Lib.hid (Hx2.out.below hbq)
  have Hx4 := Lib.hid (Hx4.out.below hbq)
  have Hx5 := Lib.hid (Hx5.out.below hbq)
  have HT := Lib.hid (HT.out.later hbq)
  clear hbq
  clear Hx4
  clear Hx5
  go_wp2_with fail
  refine (stMinus (.slice cm m.length cc) (.slice a0 l.length c0) m l _ (HC.out.below HT.out.low) (HP.out.rs.below HT.out.low) (by omega)).mono ?_
  rintro e wq ⟨x6, rfl, hs, hbq⟩
  have Hx2 := Lib.hid (Hx2.out.below hbq)
  have HT := Lib.hid (HT.out.later hbq)
  have Hx6 := Lib.hid hs
  clear hs hbq
  go_wp2_with fail
  refine (stMinus (.slice cm m.length cc) x6 m (minusS m l) _ (HC.out.below HT.out.low) Hx6.out.a (by omega)).mono ?_
  rintro e wq ⟨x7, rfl, hs, hbq⟩
  have Hx2 := Lib.hid (Hx2.out.below hbq)
  have Hx6 := Lib.hid (Hx6.out.below hbq)
  have HT := Lib.hid (HT.out.later hbq)
  have Hx7 := Lib.hid hs
  clear hs hbq
  clear Hx6
  rw [P2.out] at Hx7
  go_wp2_with fail
  refine (sameT x7 (.slice bo (minusS l (minusS l m)).length bc2) (minusS l (minusS l m)) _ Hx7.out Hx2.out).mono ?_
  rintro e wq ⟨rfl, hbq⟩
  have Hx2 := Lib.hid (Hx2.out.below hbq)
  have Hx7 := Lib.hid (Hx7.out.below hbq)
  have HT := Lib.hid (HT.out.later hbq)
  clear hbq
  clear Hx7
  have hl1000 : l.length ≤ 1000 := by omega
  have hm1000 : m.length ≤ 1000 := by omega
  have hq400 : (minusS l (minusS l m)).length ≤ 400 := by omega
  have hr400 : (minusS m l).length ≤ 400 := by omega
  have HTd := HT.out.drew
  have Hx2 := Lib.hid (Hx2.out.below (below_drew (Below.refl wq.heap.size wq)))
  go_wp2_with fail
  go_region_held3 (fun W => ∀ o, W.cell? ⟨w.heap.size, o, none⟩ = (#[.slice a0 l.length c0, .slice a1 g.length c1, .slice a2 h.length c2, .slice a3 qs.length c3] : Array Value)[o]?)
    (first | exact HTd.a.1 | go_keep)
    (first
      | (go_at_call 16; refine (state_Gone (.slice a0 l.length c0) _ _ _ (.slice cm m.length cc) l m _ rfl rfl rfl (HP.out.rs.below HTd.low) (HC.out.below HTd.low) hl1000).mono ?_; rintro e wq ⟨x8, rfl, hs8, hbq⟩; have HTd := HTd.later hbq; have Hx2 := Lib.hid (Hx2.out.below hbq); have Hx8 := Lib.hid hs8; have cq := HTd.a.1)
      | (go_at_call 21; refine (stMinus (.slice a0 l.length c0) x8 l (minusS l m) _ (HP.out.rs.below HTd.low) Hx8.out.a hl1000).mono ?_; rintro e wq ⟨x9, rfl, hs9, hbq⟩; have HTd := HTd.later hbq; have Hx2 := Lib.hid (Hx2.out.below hbq); have Hx9 := Lib.hid hs9; have cq := HTd.a.1)
      | (go_at_call 14; refine (state_Added (.slice a0 l.length c0) _ _ _ (.slice cm m.length cc) l m _ rfl rfl rfl (HP.out.rs.below HTd.low) (HC.out.below HTd.low) hm1000).mono ?_; rintro e wq ⟨x10, rfl, hs10, hbq⟩; have HTd := HTd.later hbq; have Hx2 := Lib.hid (Hx2.out.below hbq); have Hx9 := Lib.hid (Hx9.out.below hbq); have Hx10 := Lib.hid hs10; have cq := HTd.a.1)
      | (go_at_call 23; refine (stUnion x9 x10 (minusS l (minusS l m)) (minusS m l) _ Hx9.out.a Hx10.out.a hq400 hr400).mono ?_; rintro e wq ⟨x11, rfl, hs11, hbq⟩; have HTd := HTd.later hbq; have Hx2 := Lib.hid (Hx2.out.below hbq); have Hx11 := Lib.hid hs11; have cq := HTd.a.1))
  have HT := Lib.hid HTd
  rw [P3.out] at Hx11
  obtain ⟨q, hq⟩ : ∃ q, q = minusS l (minusS l m) := ⟨_, rfl⟩
  rw [← hq] at P5 Hx2 hq400 ⊢
  clear HTd hq hs8 hs9 hs10 Hx8 Hx9 Hx10 P1 P2 P3 k1 k2 k3 k4 hr400
  obtain ⟨wB, hwB⟩ : ∃ wB, wB = wq := ⟨_, rfl⟩
  subst hwB
  go_wp2_with fail
  go_loopw [56] (fun i wr => ∃ k : Nat, k ≤ q.length ∧ i = .int .i64 k ∧ Hid (Below wB.heap.size wB wr)) (fun i _ => q.length - (intOf i).toNat)
  case atStart => exact ⟨0, by omega, rfl, Lib.hid (Below.refl _ _)⟩
  case round =>
    obtain ⟨k, hk, rfl, HB⟩ := hrel
    have HT := Lib.hid (HT.out.later HB.out)
    by_cases hlt : k < q.length
    · obtain ⟨b1, o1, e1, he1, hc1, hm1', hb1, hx1⟩ := Hx2.out.pos (by omega)
      simp only [Value.slice.injEq, true_and] at he1
      obtain ⟨rfl, rfl⟩ := he1
      obtain ⟨p0, p1, p2, p3, p4, p5, p6, p7, p8⟩ := st_cell (w := wr) (fun j u hu => (HB.out.cell (p := ⟨b1, o1 + j, none⟩) hb1).trans (hx1 j u hu)) k hlt
      have hbr : b1 < wr.heap.size := Nat.lt_of_lt_of_le hb1 HB.out.size
      obtain ⟨px1, px2⟩ := P5.out _ (List.getElem_mem hlt)
      have H1 := Lib.hid (fun W h => state_Has (.slice a0 l.length c0) l q[k] W h)
      have H2 := Lib.hid (fun W h => state_Has (.slice cm m.length cc) m q[k] W h)
      rw [px1] at H1
      rw [px2] at H2
      have hek : q[k] = ⟨q[k].k, ⟨q[k].h.o, q[k].h.n⟩, q[k].who, ⟨q[k].a.o, q[k].a.n⟩, ⟨q[k].b.o, q[k].b.n⟩, q[k].via⟩ := rfl
      clear hx1 px1 px2
      generalize q[k] = x at *
      obtain ⟨xk, ⟨y1, y2⟩, xw, ⟨y3, y4⟩, ⟨y5, y6⟩, xv⟩ := x
      clear hek
      have HB2 := Lib.hid (HB.out.alloc HB.out.size (.cells #[.int .i64 xk, .string y1, .string y2, .string xw, .string y3, .string y4, .string y5, .string y6, .string xv] 30))
      have HT2 := Lib.hid (HT.out.alloc (.cells #[.int .i64 xk, .string y1, .string y2, .string xw, .string y3, .string y4, .string y5, .string y6, .string xv] 30))
      have HBK := Lib.hid (Blk.new wr #[.int .i64 xk, .string y1, .string y2, .string xw, .string y3, .string y4, .string y5, .string y6, .string xv] 30)
      go_wp2_with fail
      refine (H1.out _ (HP.out.rs.below HT2.out.low)).mono ?_
      rintro e w3 ⟨rfl, hb3⟩
      have HB3 := Lib.hid (HB2.out.trans (hb3.mono HB2.out.size))
      have HT3 := Lib.hid (HT2.out.later hb3)
      obtain ⟨ca, fa, za⟩ := HBK.out.below hb3
      clear hb3
      go_wp2_with fail
      refine (H2.out _ (HC.out.below HT3.out.low)).mono ?_
      rintro e w4 ⟨rfl, hb4⟩
      have HB4 := Lib.hid (HB3.out.trans (hb4.mono HB3.out.size))
      clear hb4 ca fa za
      go_wp2
      exact ⟨⟨k + 1, by omega, by go_num, HB4⟩, by simp [intOf]; omega⟩
    · have Hx11 := Lib.hid (Hx11.out.below HB.out)
      clear HB Hx2
      go_wp2_with fail
      refine (stUnion (.slice cm m.length cc) (.slice none 0 0) m [] _ (HC.out.below HT.out.low) (Sl.nil _ _).a (by omega) (by simp)).mono ?_
      rintro e wq ⟨x12, rfl, hs, hbq⟩
      have Hx11 := Lib.hid (Hx11.out.below hbq)
      have HT := Lib.hid (HT.out.later hbq)
      have Hx12 := Lib.hid hs
      clear hs hbq
      go_wp2_with fail
      refine (sameT x11 x12 (unionS m []) _ Hx11.out Hx12.out).mono ?_
      rintro e wq ⟨rfl, hbq⟩
      have Hx11 := Lib.hid (Hx11.out.below hbq)
      have Hx12 := Lib.hid (Hx12.out.below hbq)
      have HT := Lib.hid (HT.out.later hbq)
      clear hbq
      clear Hx11
      clear Hx12
      go_wp2_with fail
      refine (stMinus (.slice a0 l.length c0) (.slice a0 l.length c0) l l _ (HP.out.rs.below HT.out.low) (HP.out.rs.below HT.out.low) (by omega)).mono ?_
      rintro e wq ⟨x13, rfl, hs, hbq⟩
      have HT := Lib.hid (HT.out.later hbq)
      have Hx13 := Lib.hid hs
      clear hs hbq
      rw [P4.out] at Hx13
      go_wp2_with fail
      refine (sameT x13 (.slice none 0 0) [] _ Hx13.out (Sl.nil _ _)).mono ?_
      rintro e wq ⟨rfl, hbq⟩
      have Hx13 := Lib.hid (Hx13.out.below hbq)
      have HT := Lib.hid (HT.out.later hbq)
      clear hbq
      clear Hx13
      go_wp2_with fail
      refine (HL.out _).mono ?_
      rintro e w6 ⟨rfl, hb6⟩
      have T6 := Lib.hid (HT.out.later hb6)
      clear hb6
      go_wp2
      go_ret
      exact ⟨rfl, T6.out.low⟩
end Go.Proofs.Ytmpanikeeeoikaa
