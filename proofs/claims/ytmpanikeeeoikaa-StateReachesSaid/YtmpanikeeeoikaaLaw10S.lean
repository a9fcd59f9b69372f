/- The statement StateReaches: the walk of the law. -/
import Derived.Test.YtmpanikeeeoikaaStReach3
import Derived.Test.YtmpanikeeeoikaaLaw10P
namespace Go.Proofs.Ytmpanikeeeoikaa
open Go.RowKit Go.Shelf

theorem ref10_OfM (va vb : Value) (l m : List St) (w : World) (ha : SlA w 9 va l.length (l.flatMap St.cells)) (hb : SlA w 9 vb m.length (m.flatMap St.cells)) (hl : l.length ≤ 1000) :
    Calls Try.prog 15 #[va, vb, .bool false] w fun e w' => ∃ v, e = .returned v ∧ Sl w' 9 v (minusS l m).length ((minusS l m).flatMap St.cells) ∧ Below w.heap.size w w' := by
  have h := ref10_Of va vb l m w ha hb hl
  rw [← ord_filter] at h
  exact h
set_option maxRecDepth 100000 in
set_option maxHeartbeats 16000000 in
theorem law10_StateReaches (v0 v1 v2 v3 vc : Value) (l m : List St) (g h : List Rl) (qs : List Qv) (s : St) (w : World) (hp : PolAt w v0 v1 v2 v3 l g h qs) (hc : SlA w 9 vc m.length (m.flatMap St.cells)) (hm : allLe m 9223372036854775807) (hs : s.le 9223372036854775807) :
    Calls Try.prog 3 #[pv v0 v1 v2 v3, vc, sv s] w fun e w' => e = .returned (.bool true) ∧ Below w.heap.size w w' := by
  have HL := Lib.hid (fun W => law10_lives W)
  have HP := Lib.hid hp
  have HC := Lib.hid hc
  have LP := Lib.hid (fun W hb => law5_Light v0 v1 v2 v3 l g h qs W (hp.below (w' := W) hb))
  have LC := Lib.hid (fun W hb => law10_Light vc m W (hc.below (w' := W) hb) hm)
  have LS := Lib.hid (fun W => law3_Light s W hs)
  obtain ⟨a0, c0, rfl⟩ := hp.rs.form
  obtain ⟨a1, c1, rfl⟩ := hp.rg.form
  obtain ⟨a2, c2, rfl⟩ := hp.rh.form
  obtain ⟨a3, c3, rfl⟩ := hp.rq.form
  obtain ⟨cm, cc, rfl⟩ := hc.form
  obtain ⟨k, ⟨h1, h2⟩, who, ⟨s1, s2⟩, ⟨s3, s4⟩, via⟩ := s
  have HT := Lib.hid (show TwoAt w #[.slice a0 l.length c0, .slice a1 g.length c1, .slice a2 h.length c2, .slice a3 qs.length c3] #[.int .i64 k, .string h1, .string h2, .string who, .string s1, .string s2, .string s3, .string s4, .string via] ((w.alloc (.cells #[.slice a0 l.length c0, .slice a1 g.length c1, .slice a2 h.length c2, .slice a3 qs.length c3] 26)).alloc (.cells #[.int .i64 k, .string h1, .string h2, .string who, .string s1, .string s2, .string s3, .string s4, .string via] 30))
    from ⟨(Blk.new w _ _).alloc _, (by have := Blk.new (w.alloc (.cells #[.slice a0 l.length c0, .slice a1 g.length c1, .slice a2 h.length c2, .slice a3 qs.length c3] 26)) #[.int .i64 k, .string h1, .string h2, .string who, .string s1, .string s2, .string s3, .string s4, .string via] 30; simpa using this), ((Below.refl _ _).alloc (Nat.le_refl _) _).alloc (by simp) _⟩)
  clear hp hc hm hs
  go_enter Try.func3, Try.ntmps3
  go_wp2_with fail
  refine (LP.out _ HT.out.low).mono ?_
  rintro e w1 ⟨⟨bp, rfl, hlp⟩, hb1⟩
  have HT := Lib.hid (HT.out.later hb1)
  have HLP := Lib.hid hlp
  clear hlp hb1
  cases bp with
  | false =>
    go_wp2_with fail
    refine (HL.out _).mono ?_
    rintro e w6 ⟨rfl, hb6⟩
    have T6 := Lib.hid (HT.out.later hb6)
    clear hb6
    go_wp2
    go_ret
    exact ⟨rfl, T6.out.low⟩
  | true =>
  go_wp2_with fail
  refine (LC.out _ HT.out.low).mono ?_
  rintro e w2 ⟨bc, rfl, hlc, hb2⟩
  have HT := Lib.hid (HT.out.later hb2)
  have HLC := Lib.hid hlc
  clear hlc hb2
  cases bc with
  | false =>
    go_wp2_with fail
    refine (HL.out _).mono ?_
    rintro e w6 ⟨rfl, hb6⟩
    have T6 := Lib.hid (HT.out.later hb6)
    clear hb6
    go_wp2
    go_ret
    exact ⟨rfl, T6.out.low⟩
  | true =>
  obtain ⟨cb, fb, zb⟩ := HT.out.b
  go_wp2_with fail
  refine (LS.out _).mono ?_
  rintro e w3 ⟨bs, rfl, hls, hb3⟩
  have HT := Lib.hid (HT.out.later hb3)
  have HLS := Lib.hid hls
  clear hls hb3 cb fb zb
  cases bs with
  | false =>
    go_wp2_with fail
    refine (HL.out _).mono ?_
    rintro e w6 ⟨rfl, hb6⟩
    have T6 := Lib.hid (HT.out.later hb6)
    clear hb6
    go_wp2
    go_ret
    exact ⟨rfl, T6.out.low⟩
  | true =>
  have hl30 : l.length ≤ 30 := (HLP.out (by first | rfl | trivial)).1
  have hm40 : m.length ≤ 40 := (HLC.out (by first | rfl | trivial)).1
  have lm4 : allLe m 4294967 := fun x hx => ((HLC.out (by first | rfl | trivial)).2 x hx).mono (by decide)
  have ls4 := (HLS.out (by first | rfl | trivial)).mono (show 40 ≤ 4294967 by decide)
  have hl1000 : l.length ≤ 1000 := by omega
  have hm1000 : m.length ≤ 1000 := by omega
  have R1 := Lib.hid (fun W hb => state_Reaches (.slice a0 l.length c0) (.slice a1 g.length c1) (.slice a2 h.length c2) (.slice a3 qs.length c3) (.slice cm m.length cc) l m g h qs W (HP.out.below (w' := W) hb) (HC.out.below hb) lm4)
  have R2 := Lib.hid (fun W hb => ref10_Reaches (.slice a0 l.length c0) (.slice a1 g.length c1) (.slice a2 h.length c2) (.slice a3 qs.length c3) (.slice cm m.length cc) l m g h qs W (HP.out.below (w' := W) hb) (HC.out.below hb) lm4)
  have AD := Lib.hid (fun W hb => state_Added (.slice a0 l.length c0) (.slice a1 g.length c1) (.slice a2 h.length c2) (.slice a3 qs.length c3) (.slice cm m.length cc) l m W rfl rfl rfl (HP.out.rs.below (w' := W) hb) (HC.out.below hb) hm1000)
  have GO := Lib.hid (fun W hb => state_Gone (.slice a0 l.length c0) (.slice a1 g.length c1) (.slice a2 h.length c2) (.slice a3 qs.length c3) (.slice cm m.length cc) l m W rfl rfl rfl (HP.out.rs.below (w' := W) hb) (HC.out.below hb) hl1000)
  have OF1 := Lib.hid (fun W hb => ref10_OfM (.slice cm m.length cc) (.slice a0 l.length c0) m l W (HC.out.below (w' := W) hb) (HP.out.rs.below hb) hm1000)
  have OF2 := Lib.hid (fun W hb => ref10_OfM (.slice a0 l.length c0) (.slice cm m.length cc) l m W (HP.out.rs.below (w' := W) hb) (HC.out.below hb) hl1000)
  have MC1 := Lib.hid (fun W hb => state_MayCome (.slice a0 l.length c0) (.slice a1 g.length c1) (.slice a2 h.length c2) (.slice a3 qs.length c3) g ⟨k, ⟨h1, h2⟩, who, ⟨s1, s2⟩, ⟨s3, s4⟩, via⟩ W (HP.out.rg.below (w' := W) hb) ls4 rfl rfl rfl)
  have MC2 := Lib.hid (fun W hb => ref10_MayCome (.slice a0 l.length c0) (.slice a1 g.length c1) (.slice a2 h.length c2) (.slice a3 qs.length c3) g ⟨k, ⟨h1, h2⟩, who, ⟨s1, s2⟩, ⟨s3, s4⟩, via⟩ W (HP.out.rg.below (w' := W) hb) ls4 rfl rfl rfl)
  have MG := Lib.hid (fun W hb => state_MayGo (.slice a0 l.length c0) (.slice a1 g.length c1) (.slice a2 h.length c2) (.slice a3 qs.length c3) h ⟨k, ⟨h1, h2⟩, who, ⟨s1, s2⟩, ⟨s3, s4⟩, via⟩ W (HP.out.rh.below (w' := W) hb) rfl rfl rfl)
  have RH := Lib.hid (fun W hb => ref5_Has (.slice a2 h.length c2) h ⟨h1, h2⟩ W (HP.out.rh.below (w' := W) hb))
  generalize reachS l g h m = r1 at R1 R2
  generalize (rightS ⟨k, ⟨h1, h2⟩, who, ⟨s1, s2⟩, ⟨s3, s4⟩, via⟩ && !hasR g _) = r2 at MC1 MC2
  change Hid (∀ W, Below w.heap.size w W → Calls Try.prog 19 _ W fun e w' => e = .returned (.bool (!hasR h ⟨h1, h2⟩)) ∧ Below W.heap.size W w') at MG
  generalize hasR h ⟨h1, h2⟩ = r3 at MG RH
  generalize minusS m l = ml at AD OF1
  generalize minusS l m = lm at GO OF2
  clear lm4 ls4 HLP HLC HLS LP LC LS
  have HT := HT.out.drew
  go_wp2_with fail
  go_region_held3 (fun W => (∀ o, W.cell? ⟨w.heap.size, o, none⟩ = (#[.slice a0 l.length c0, .slice a1 g.length c1, .slice a2 h.length c2, .slice a3 qs.length c3] : Array Value)[o]?) ∧ (∀ o, W.cell? ⟨w.heap.size + 1, o, none⟩ = (#[.int .i64 k, .string h1, .string h2, .string who, .string s1, .string s2, .string s3, .string s4, .string via] : Array Value)[o]?))
    (first | exact ⟨HT.a.1, HT.b.1⟩ | go_keep)
    (first
      | (go_at_call 11; refine (R1.out _ HT.low).mono ?_; rintro e wq ⟨rfl, hbq⟩; have HT := HT.later hbq; have cq1 := HT.a.1; have cq2 := HT.b.1)
      | (go_at_call 12; refine (R2.out _ HT.low).mono ?_; rintro e wq ⟨rfl, hbq⟩; have HT := HT.later hbq; have cq1 := HT.a.1; have cq2 := HT.b.1)
      | (go_at_call 14; refine (AD.out _ HT.low).mono ?_; rintro e wq ⟨x1, rfl, hs1', hbq⟩; have HT := HT.later hbq; have cq1 := HT.a.1; have cq2 := HT.b.1; have Hx1 := Lib.hid hs1')
      | (go_at_call_of 15 (#[Value.slice cm m.length cc, Value.slice a0 l.length c0, Value.bool false] : Array Value); refine (OF1.out _ HT.low).mono ?_; rintro e wq ⟨x2, rfl, hs2', hbq⟩; have HT := HT.later hbq; have cq1 := HT.a.1; have cq2 := HT.b.1; have Hx1 := Lib.hid (Hx1.out.below hbq); have Hx2 := Lib.hid hs2')
      | (go_at_call_of 13 (#[x1, x2] : Array Value); refine (ref3_SameT x1 x2 _ _ Hx1.out.a Hx2.out.a).mono ?_; rintro e wq ⟨rfl, hbq⟩; have HT := HT.later hbq; have cq1 := HT.a.1; have cq2 := HT.b.1)
      | (go_at_call 16; refine (GO.out _ HT.low).mono ?_; rintro e wq ⟨x3, rfl, hs3', hbq⟩; have HT := HT.later hbq; have cq1 := HT.a.1; have cq2 := HT.b.1; have Hx3 := Lib.hid hs3')
      | (go_at_call_of 15 (#[Value.slice a0 l.length c0, Value.slice cm m.length cc, Value.bool false] : Array Value); refine (OF2.out _ HT.low).mono ?_; rintro e wq ⟨x4, rfl, hs4', hbq⟩; have HT := HT.later hbq; have cq1 := HT.a.1; have cq2 := HT.b.1; have Hx3 := Lib.hid (Hx3.out.below hbq); have Hx4 := Lib.hid hs4')
      | (go_at_call_of 13 (#[x3, x4] : Array Value); refine (ref3_SameT x3 x4 _ _ Hx3.out.a Hx4.out.a).mono ?_; rintro e wq ⟨rfl, hbq⟩; have HT := HT.later hbq; have cq1 := HT.a.1; have cq2 := HT.b.1)
      | (go_at_call 17; refine (MC1.out _ HT.low).mono ?_; rintro e wq ⟨rfl, hbq⟩; have HT := HT.later hbq; have cq1 := HT.a.1; have cq2 := HT.b.1)
      | (go_at_call 18; refine (MC2.out _ HT.low).mono ?_; rintro e wq ⟨rfl, hbq⟩; have HT := HT.later hbq; have cq1 := HT.a.1; have cq2 := HT.b.1)
      | (go_at_call 19; refine (MG.out _ HT.low).mono ?_; rintro e wq ⟨rfl, hbq⟩; have HT := HT.later hbq; have cq1 := HT.a.1; have cq2 := HT.b.1)
      | (go_at_call 20; refine (RH.out _ HT.low).mono ?_; rintro e wq ⟨rfl, hbq⟩; have HT := HT.later hbq; have cq1 := HT.a.1; have cq2 := HT.b.1)
      | (go_at_call 10; refine (HL.out _).mono ?_; rintro e wq ⟨rfl, hbq⟩; have HT := HT.later hbq; have cq1 := HT.a.1; have cq2 := HT.b.1))
  go_wp2
  go_ret
  exact ⟨rfl, HT.low⟩
end Go.Proofs.Ytmpanikeeeoikaa
