/- The statement DeltaTells: the walk of the law (printed by gen_law32.py). -/
import Derived.Test.YtmpanikeeeoikaaGreatPart17
namespace Go.Proofs.YtmpanikeeeoikaaGreat
open Go.RowKit Go.Shelf

theorem SlA.puts {size n g m : Nat} {v : Value} {xs : List Value} (hx : ∀ u ∈ xs, isSl u = false) (vs : List Value) (w : World) (h : SlA w size v n xs) (hg : BlkS w g m) (ho : vs.length ≤ m) (hv : ∀ v ∈ vs, isSl v = true) : SlA (puts w g 0 vs) size v n xs := by
  rcases h with h | h
  · exact .inl (h.puts hx vs 0 w hg (by omega) hv)
  · exact .inr h
theorem DlAt.puts {w : World} {v0 v1 v2 v3 v4 v5 : Value} {d : Dl} {g m : Nat} (h : DlAt w v0 v1 v2 v3 v4 v5 d) (vs : List Value) (hg : BlkS w g m) (ho : vs.length ≤ m) (hv : ∀ v ∈ vs, isSl v = true) : DlAt (puts w g 0 vs) v0 v1 v2 v3 v4 v5 d :=
  ⟨h.a0.puts (st_noSl _) vs w hg ho hv, h.a1.puts (st_noSl _) vs w hg ho hv, h.a2.puts (rl_noSl _) vs w hg ho hv, h.a3.puts (rl_noSl _) vs w hg ho hv, h.a4.puts (rl_noSl _) vs w hg ho hv, h.a5.puts (rl_noSl _) vs w hg ho hv⟩
theorem ThreeAt.puts {w wx : World} {A B C : Array Value} (h : ThreeAt w A B C wx) {g : Nat} (hg : w.heap.size + 2 < g) (vs : List Value) : ThreeAt w A B C (puts wx g 0 vs) :=
  ⟨h.a.puts_far (by omega) vs 0 wx, h.b.puts_far (by omega) vs 0 wx, h.c.puts_far (by omega) vs 0 wx, below_puts (by omega) vs 0 wx h.low⟩
theorem Blk.six {w : World} {g : Nat} {z0 z1 z2 z3 z4 z5 : Value} (h : Blk w g #[z0, z1, z2, z3, z4, z5]) (x0 x1 x2 x3 x4 x5 : Value) : Blk (puts w g 0 [x0, x1, x2, x3, x4, x5]) g #[x0, x1, x2, x3, x4, x5] := by
  have := (((((h.put (o := 0) (v := x0) (by simp)).put (o := 1) (v := x1) (by simp)).put (o := 2) (v := x2) (by simp)).put (o := 3) (v := x3) (by simp)).put (o := 4) (v := x4) (by simp)).put (o := 5) (v := x5) (by simp)
  change Blk ((((((w.setCell ⟨g, 0, none⟩ x0).setCell ⟨g, 1, none⟩ x1).setCell ⟨g, 2, none⟩ x2).setCell ⟨g, 3, none⟩ x3).setCell ⟨g, 4, none⟩ x4).setCell ⟨g, 5, none⟩ x5) g _
  simpa using this
/-- Behind the law's third statement: both differences stand in variables. -/
structure Dls (w : World) (A B C : Array Value) (d : Dl) (b7 b8 : Nat) (x0 x1 x2 x3 x4 x5 y0 y1 y2 y3 y4 y5 : Value) (wx : World) : Prop where
  t : ThreeAt w A B C wx
  h7 : Blk wx b7 #[x0, x1, x2, x3, x4, x5]
  h8 : Blk wx b8 #[y0, y1, y2, y3, y4, y5]
  hx : DlAt wx x0 x1 x2 x3 x4 x5 d
  hy : DlAt wx y0 y1 y2 y3 y4 y5 d
theorem Dls.later {w wx w' : World} {A B C : Array Value} {d : Dl} {b7 b8 : Nat} {x0 x1 x2 x3 x4 x5 y0 y1 y2 y3 y4 y5 : Value} (h : Dls w A B C d b7 b8 x0 x1 x2 x3 x4 x5 y0 y1 y2 y3 y4 y5 wx) (hb : Below wx.heap.size wx w') : Dls w A B C d b7 b8 x0 x1 x2 x3 x4 x5 y0 y1 y2 y3 y4 y5 w' :=
  ⟨h.t.later hb, h.h7.below hb, h.h8.below hb, h.hx.below hb, h.hy.below hb⟩

set_option maxRecDepth 100000 in
set_option maxHeartbeats 64000000 in
theorem law32_DeltaTells (v0 v1 v2 v3 u0 u1 u2 u3 t0 t1 t2 t3 : Value) (l1 l2 l3 : List St) (g1 h1 g2 h2 g3 h3 : List Rl) (q1 q2 q3 : List Qv) (w : World) (hp1 : PolAt w v0 v1 v2 v3 l1 g1 h1 q1) (hp2 : PolAt w u0 u1 u2 u3 l2 g2 h2 q2) (hp3 : PolAt w t0 t1 t2 t3 l3 g3 h3 q3) :
    Calls Tryz.prog 3 #[pv v0 v1 v2 v3, pv u0 u1 u2 u3, pv t0 t1 t2 t3] w fun e w' => e = .returned (.bool true) ∧ Below w.heap.size w w' := by
  have HL := Lib.hid (fun W => law32_lives W)
  have HP1 := Lib.hid hp1
  have HP2 := Lib.hid hp2
  have HP3 := Lib.hid hp3
  have L1 := Lib.hid (fun W hb => law5_LightR v0 v1 v2 v3 l1 g1 h1 q1 W (hp1.below (w' := W) hb))
  have L2 := Lib.hid (fun W hb => law5_LightR u0 u1 u2 u3 l2 g2 h2 q2 W (hp2.below (w' := W) hb))
  have L3 := Lib.hid (fun W hb => law5_LightR t0 t1 t2 t3 l3 g3 h3 q3 W (hp3.below (w' := W) hb))
  obtain ⟨va0, vc0, rfl⟩ := hp1.rs.form
  obtain ⟨va1, vc1, rfl⟩ := hp1.rg.form
  obtain ⟨va2, vc2, rfl⟩ := hp1.rh.form
  obtain ⟨va3, vc3, rfl⟩ := hp1.rq.form
  obtain ⟨ua0, uc0, rfl⟩ := hp2.rs.form
  obtain ⟨ua1, uc1, rfl⟩ := hp2.rg.form
  obtain ⟨ua2, uc2, rfl⟩ := hp2.rh.form
  obtain ⟨ua3, uc3, rfl⟩ := hp2.rq.form
  obtain ⟨ta0, tc0, rfl⟩ := hp3.rs.form
  obtain ⟨ta1, tc1, rfl⟩ := hp3.rg.form
  obtain ⟨ta2, tc2, rfl⟩ := hp3.rh.form
  obtain ⟨ta3, tc3, rfl⟩ := hp3.rq.form
  have HT := Lib.hid (ThreeAt.new w #[.slice va0 l1.length vc0, .slice va1 g1.length vc1, .slice va2 h1.length vc2, .slice va3 q1.length vc3] #[.slice ua0 l2.length uc0, .slice ua1 g2.length uc1, .slice ua2 h2.length uc2, .slice ua3 q2.length uc3] #[.slice ta0 l3.length tc0, .slice ta1 g3.length tc1, .slice ta2 h3.length tc2, .slice ta3 q3.length tc3] 26 26 26)
  clear hp1 hp2 hp3
  go_enter Tryz.func3, Tryz.ntmps3
  go_wp2_with fail
  refine (L1.out _ HT.out.low).mono ?_
  rintro e wl1 ⟨⟨b, rfl, hl⟩, hb⟩
  have HT := Lib.hid (HT.out.later hb)
  have HL1 := Lib.hid hl
  clear hl hb L1
  cases b with
  | false =>
    go_wp2_with fail
    refine (HL.out _).mono ?_
    rintro e w6 ⟨rfl, hb6⟩
    have T6 := Lib.hid (HT.out.later hb6)
    clear hb6
    go_wp2
    go_ret
    exact ⟨rfl, T6.out.low⟩
  | true =>
  have HN1 := Lib.hid (HL1.out (by first | rfl | trivial))
  clear HL1
  obtain ⟨ca, fa, za⟩ := HT.out.b
  go_wp2_with fail
  refine (L2.out _ HT.out.low).mono ?_
  rintro e wl2 ⟨⟨b, rfl, hl⟩, hb⟩
  have HT := Lib.hid (HT.out.later hb)
  have HL2 := Lib.hid hl
  clear hl hb L2 ca fa za
  cases b with
  | false =>
    go_wp2_with fail
    refine (HL.out _).mono ?_
    rintro e w6 ⟨rfl, hb6⟩
    have T6 := Lib.hid (HT.out.later hb6)
    clear hb6
    go_wp2
    go_ret
    exact ⟨rfl, T6.out.low⟩
  | true =>
  have HN2 := Lib.hid (HL2.out (by first | rfl | trivial))
  clear HL2
  obtain ⟨ca, fa, za⟩ := HT.out.c
  go_wp2_with fail
  refine (L3.out _ HT.out.low).mono ?_
  rintro e wl3 ⟨⟨b, rfl, hl⟩, hb⟩
  have HT := Lib.hid (HT.out.later hb)
  have HL3 := Lib.hid hl
  clear hl hb L3 ca fa za
  cases b with
  | false =>
    go_wp2_with fail
    refine (HL.out _).mono ?_
    rintro e w6 ⟨rfl, hb6⟩
    have T6 := Lib.hid (HT.out.later hb6)
    clear hb6
    go_wp2
    go_ret
    exact ⟨rfl, T6.out.low⟩
  | true =>
  have HN3 := Lib.hid (HL3.out (by first | rfl | trivial))
  clear HL3
  have n10 : l1.length ≤ 30 := HN1.out.1.1
  have n11 : g1.length ≤ 30 := HN1.out.1.2.1
  have n12 : h1.length ≤ 30 := HN1.out.1.2.2.1
  have n20 : l2.length ≤ 30 := HN2.out.1.1
  have n21 : g2.length ≤ 30 := HN2.out.1.2.1
  have n22 : h2.length ≤ 30 := HN2.out.1.2.2.1
  have n30 : l3.length ≤ 30 := HN3.out.1.1
  have n31 : g3.length ≤ 30 := HN3.out.1.2.1
  have n32 : h3.length ≤ 30 := HN3.out.1.2.2.1
  have DLE := Lib.hid (Dl.of_le (l1 := l1) (l2 := l2) (g1 := g1) (h1 := h1) (g2 := g2) (h2 := h2) (k := 30) (m := 40) n10 n20 n11 n21 n12 n22 HN1.out.1.2.2.2.2.1 HN2.out.1.2.2.2.2.1 (fun x hx => HN1.out.2 x (List.mem_append_left _ hx)) (fun x hx => HN2.out.2 x (List.mem_append_left _ hx)) (fun x hx => HN1.out.2 x (List.mem_append_right _ hx)) (fun x hx => HN2.out.2 x (List.mem_append_right _ hx)))
  have OF := Lib.hid (fun W (hb : Below w.heap.size w W) => delta_Of (.slice va0 l1.length vc0) (.slice va1 g1.length vc1) (.slice va2 h1.length vc2) (.slice va3 q1.length vc3) (.slice ua0 l2.length uc0) (.slice ua1 g2.length uc1) (.slice ua2 h2.length uc2) (.slice ua3 q2.length uc3) l1 l2 g1 h1 g2 h2 q1 q2 W (HP1.out.below hb) (HP2.out.below hb) (by omega) (by omega) (by omega) (by omega) (by omega) (by omega))
  have RF := Lib.hid (fun W (hb : Below w.heap.size w W) => ref32_Of (.slice va0 l1.length vc0) (.slice va1 g1.length vc1) (.slice va2 h1.length vc2) (.slice va3 q1.length vc3) (.slice ua0 l2.length uc0) (.slice ua1 g2.length uc1) (.slice ua2 h2.length uc2) (.slice ua3 q2.length uc3) l1 l2 g1 h1 g2 h2 q1 q2 W (HP1.out.below hb) (HP2.out.below hb) (by omega) (by omega) (by omega) (by omega) (by omega) (by omega))
  have TG := Lib.hid (fun W (hb : Below w.heap.size w W) => delta_Tightens (.slice va0 l1.length vc0) (.slice va1 g1.length vc1) (.slice va2 h1.length vc2) (.slice va3 q1.length vc3) (.slice ua0 l2.length uc0) (.slice ua1 g2.length uc1) (.slice ua2 h2.length uc2) (.slice ua3 q2.length uc3) l1 l2 g1 h1 g2 h2 q1 q2 W (HP1.out.below hb) (HP2.out.below hb) (by omega) (by omega) (by omega) (by omega) (by omega) (by omega))
  generalize Dl.of l1 g1 h1 l2 g2 h2 = d at *
  have DL3 := Lib.hid (DLE.out.mono (k' := 300) (m' := 4294967) (by decide) (by decide))
  have DLK := Lib.hid (DLE.out.mono (k' := 1000) (m' := 4294967) (by decide) (by decide))
  have AP := Lib.hid (fun x0 x1 x2 x3 x4 x5 W (hb : Below w.heap.size w W) (hd : DlAt W x0 x1 x2 x3 x4 x5 d) => delta_Apply (.slice ta0 l3.length tc0) (.slice ta1 g3.length tc1) (.slice ta2 h3.length tc2) (.slice ta3 q3.length tc3) x0 x1 x2 x3 x4 x5 l3 g3 h3 q3 d 4294967 W (HP3.out.below hb) hd (by omega) (by omega) (by omega) DL3.out)
  have RA := Lib.hid (fun x0 x1 x2 x3 x4 x5 W (hb : Below w.heap.size w W) (hd : DlAt W x0 x1 x2 x3 x4 x5 d) => ref32_Apply (.slice ta0 l3.length tc0) (.slice ta1 g3.length tc1) (.slice ta2 h3.length tc2) (.slice ta3 q3.length tc3) x0 x1 x2 x3 x4 x5 l3 g3 h3 q3 d 4294967 W (HP3.out.below hb) hd (by omega) (by omega) (by omega) DL3.out)
  have SP := Lib.hid (fun y0 y1 y2 z0 z1 z2 W (hb : Below w.heap.size w W) (r : Rows3 W y0 y1 y2 (d.sames l3) (d.grows g3) (d.shrinks h3)) (s : Rows3 W z0 z1 z2 (d.sames l3) (d.grows g3) (d.shrinks h3)) => ref5_SameT y0 y1 y2 z0 z1 z2 (.slice ta3 q3.length tc3) (d.sames l3) (d.grows g3) (d.shrinks h3) q3 W r.r0.a r.r1.a r.r2.a s.r0.a s.r1.a s.r2.a (HP3.out.rq.below hb) (fun x hx => (HP3.out.lq x hx).below hb))
  generalize d.sames l3 = s0 at *
  generalize d.grows g3 = s1 at *
  generalize d.shrinks h3 = s2 at *
  have TR := Lib.hid (show decide (d.more.length + d.gone.length + d.ungrow.length + d.unshrink.length = 0) = d.tight from rfl)
  have EM := Lib.hid (show d.none = (d.tight && decide (d.grow.length + d.shrink.length = 0)) by unfold Dl.none Dl.tight; rw [← Bool.decide_and]; exact decide_eq_decide.2 (by omega))
  have m0 := DLE.out.n0
  have m1 := DLE.out.n1
  have m2 := DLE.out.n2
  have m3 := DLE.out.n3
  have m4 := DLE.out.n4
  have m5 := DLE.out.n5
  go_upto_region 4 with fail
  go_cut [7, 8] (fun s7 s8 wx => ∃ (b7 b8 : Nat) (xa0 ya0 xa1 ya1 xa2 ya2 xa3 ya3 xa4 ya4 xa5 ya5 : Option Addr) (xc0 yc0 xc1 yc1 xc2 yc2 xc3 yc3 xc4 yc4 xc5 yc5 : Nat), s7 = .pointer (some ⟨b7, 0, none⟩) ∧ s8 = .pointer (some ⟨b8, 0, none⟩) ∧ Hid (Dls w #[.slice va0 l1.length vc0, .slice va1 g1.length vc1, .slice va2 h1.length vc2, .slice va3 q1.length vc3] #[.slice ua0 l2.length uc0, .slice ua1 g2.length uc1, .slice ua2 h2.length uc2, .slice ua3 q2.length uc3] #[.slice ta0 l3.length tc0, .slice ta1 g3.length tc1, .slice ta2 h3.length tc2, .slice ta3 q3.length tc3] d b7 b8 (.slice xa0 d.more.length xc0) (.slice xa1 d.gone.length xc1) (.slice xa2 d.grow.length xc2) (.slice xa3 d.ungrow.length xc3) (.slice xa4 d.shrink.length xc4) (.slice xa5 d.unshrink.length xc5) (.slice ya0 d.more.length yc0) (.slice ya1 d.gone.length yc1) (.slice ya2 d.grow.length yc2) (.slice ya3 d.ungrow.length yc3) (.slice ya4 d.shrink.length yc4) (.slice ya5 d.unshrink.length yc5) wx))
  case first =>
    clear TG AP RA SP TR EM DL3 DLK HL HP1 HP2 HP3 HN1 HN2 HN3 m0 m1 m2 m3 m4 m5
    have HT := HT.out
    obtain ⟨ca, fa, za⟩ := HT.a
    obtain ⟨cb, fb, zb⟩ := HT.b
    go_wp2_with fail
    clear ca fa za cb fb zb
    refine wp_region_held_drew (S := (fun W => (∀ o, W.cell? ⟨w.heap.size, o, none⟩ = (#[.slice va0 l1.length vc0, .slice va1 g1.length vc1, .slice va2 h1.length vc2, .slice va3 q1.length vc3] : Array Value)[o]?) ∧ (∀ o, W.cell? ⟨w.heap.size + 1, o, none⟩ = (#[.slice ua0 l2.length uc0, .slice ua1 g2.length uc1, .slice ua2 h2.length uc2, .slice ua3 q2.length uc3] : Array Value)[o]?))) (by kernel_rfl) ⟨HT.drew.a.1, HT.drew.b.1⟩ (fun hHeld => ?_)
    have HT := HT.drew
    obtain ⟨wk, hwk⟩ : ∃ W, W = wl3.drew := ⟨_, rfl⟩
    rw [← hwk] at HT hHeld ⊢
    clear hwk
    (refine held_yes (v := ?_) 0 rfl (by kernel_rfl) (by kernel_rfl) (by kernel_rfl) (fun _ _ _ h => h) (by rfl) (by assumption) ?_ ?_; rotate_left; focus ((intro w hSw); (try dsimp only at hSw); go_simp; (try with_reducible rfl)); (try simp only [Act.put, List.setIfInBounds_toArray, List.set_cons_zero, List.set_cons_succ])); (refine held_yes (v := ?_) 1 rfl (by kernel_rfl) (by kernel_rfl) (by kernel_rfl) (fun _ _ _ h => h) (by rfl) (by assumption) ?_ ?_; rotate_left; focus ((intro w hSw); (try dsimp only at hSw); go_simp; (try with_reducible rfl)); (try simp only [Act.put, List.setIfInBounds_toArray, List.set_cons_zero, List.set_cons_succ])); (refine held_yes (v := ?_) 3 rfl (by kernel_rfl) (by kernel_rfl) (by kernel_rfl) (fun _ _ _ h => h) (by rfl) (by assumption) ?_ ?_; rotate_left; focus ((intro w hSw); (try dsimp only at hSw); go_simp; (try with_reducible rfl)); (try simp only [Act.put, List.setIfInBounds_toArray, List.set_cons_zero, List.set_cons_succ])); (refine held_yes (v := ?_) 4 rfl (by kernel_rfl) (by kernel_rfl) (by kernel_rfl) (fun _ _ _ h => h) (by rfl) (by assumption) ?_ ?_; rotate_left; focus ((intro w hSw); (try dsimp only at hSw); go_simp; (try with_reducible rfl)); (try simp only [Act.put, List.setIfInBounds_toArray, List.set_cons_zero, List.set_cons_succ]))
    refine wpAnyH_ready (rs := [2, 6, 7]) (by kernel_rfl) (by simp) (AllReadyH.cons rfl (fun K hK => ?_) (AllReadyH.cons rfl (fun K hK => ?_) (AllReadyH.cons rfl (fun K hK => ?_) AllReadyH.nil)))
    · go_simp
      go_at_call 7; refine (OF.out _ HT.low).mono ?_; rintro e wk1 ⟨z, rfl, ⟨z0, z1, z2, z3, z4, z5, rfl, hz⟩, hbq⟩
      obtain ⟨xa0, xc0, rfl⟩ := hz.a0.form
      obtain ⟨xa1, xc1, rfl⟩ := hz.a1.form
      obtain ⟨xa2, xc2, rfl⟩ := hz.a2.form
      obtain ⟨xa3, xc3, rfl⟩ := hz.a3.form
      obtain ⟨xa4, xc4, rfl⟩ := hz.a4.form
      obtain ⟨xa5, xc5, rfl⟩ := hz.a5.form
      have HT := HT.later hbq
      have HX := hz
      clear hz hbq
      (refine hK.out _ _ (⟨HT.a.1, HT.b.1⟩) (fun hHeld => ?_); clear hK K; (try simp only [Act.put, List.setIfInBounds_toArray, List.set_cons_zero, List.set_cons_succ]))
      refine wpAnyH_ready (rs := [5, 6, 7]) (by kernel_rfl) (by simp) (AllReadyH.cons rfl (fun K hK => ?_) (AllReadyH.cons rfl (fun K hK => ?_) (AllReadyH.cons rfl (fun K hK => ?_) AllReadyH.nil)))
      · go_simp
        go_at_call 8; refine (RF.out _ HT.low).mono ?_; rintro e wk2 ⟨z, rfl, ⟨z0, z1, z2, z3, z4, z5, rfl, hz⟩, hbq⟩
        obtain ⟨ya0, yc0, rfl⟩ := hz.a0.form
        obtain ⟨ya1, yc1, rfl⟩ := hz.a1.form
        obtain ⟨ya2, yc2, rfl⟩ := hz.a2.form
        obtain ⟨ya3, yc3, rfl⟩ := hz.a3.form
        obtain ⟨ya4, yc4, rfl⟩ := hz.a4.form
        obtain ⟨ya5, yc5, rfl⟩ := hz.a5.form
        have HX := HX.below hbq
        have HT := HT.later hbq
        have HY := hz
        clear hz hbq
        (refine hK.out _ _ (⟨HT.a.1, HT.b.1⟩) (fun hHeld => ?_); clear hK K; (try simp only [Act.put, List.setIfInBounds_toArray, List.set_cons_zero, List.set_cons_succ]))
        refine wpAnyH_ready (rs := [6, 7]) (by kernel_rfl) (by simp) (AllReadyH.cons rfl (fun K hK => ?_) (AllReadyH.cons rfl (fun K hK => ?_) AllReadyH.nil))
        · go_simp
          obtain ⟨b7, hb7⟩ : ∃ b, b = wk2.heap.size := ⟨_, rfl⟩
          obtain ⟨wk3, hwn⟩ : ∃ V, V = wk2.alloc (.cells #[.slice none 0 0, .slice none 0 0, .slice none 0 0, .slice none 0 0, .slice none 0 0, .slice none 0 0] 30) := ⟨_, rfl⟩
          rw [← hwn, ← hb7]
          have hbq : Below wk2.heap.size wk2 wk3 := by rw [hwn]; exact (Below.refl _ _).alloc (Nat.le_refl _) _
          have H7 : Blk wk3 b7 #[.slice none 0 0, .slice none 0 0, .slice none 0 0, .slice none 0 0, .slice none 0 0, .slice none 0 0] := by rw [hwn, hb7]; exact Blk.new _ _ _
          have lb7 : w.heap.size + 2 < b7 := by rw [hb7]; exact HT.c.2.2
          have HX := HX.below hbq
          have HY := HY.below hbq
          have HT := HT.later hbq
          clear hbq hwn hb7
          (refine hK.out _ _ (⟨HT.a.1, HT.b.1⟩) (fun hHeld => ?_); clear hK K; (try simp only [Act.put, List.setIfInBounds_toArray, List.set_cons_zero, List.set_cons_succ]))
          (refine held_call 7 rfl (by kernel_rfl) (fun K hK => ?_); go_simp)
          obtain ⟨b8, hb8⟩ : ∃ b, b = wk3.heap.size := ⟨_, rfl⟩
          obtain ⟨wk4, hwn⟩ : ∃ V, V = wk3.alloc (.cells #[.slice none 0 0, .slice none 0 0, .slice none 0 0, .slice none 0 0, .slice none 0 0, .slice none 0 0] 32) := ⟨_, rfl⟩
          rw [← hwn, ← hb8]
          have hbq : Below wk3.heap.size wk3 wk4 := by rw [hwn]; exact (Below.refl _ _).alloc (Nat.le_refl _) _
          have H8 : Blk wk4 b8 #[.slice none 0 0, .slice none 0 0, .slice none 0 0, .slice none 0 0, .slice none 0 0, .slice none 0 0] := by rw [hwn, hb8]; exact Blk.new _ _ _
          have lb8 : w.heap.size + 2 < b8 := by rw [hb8]; exact HT.c.2.2
          have hne : b7 < b8 := by rw [hb8]; exact H7.2.2
          have HX := HX.below hbq
          have HY := HY.below hbq
          have H7 := H7.below hbq
          have HT := HT.later hbq
          clear hbq hwn hb8
          (refine hK.out _ _ (⟨HT.a.1, HT.b.1⟩) (fun hHeld => ?_); clear hK K; (try simp only [Act.put, List.setIfInBounds_toArray, List.set_cons_zero, List.set_cons_succ]))
          have Hc := H7
          obtain ⟨cs, fs, zs⟩ := Hc
          (refine held_call 8 rfl (by kernel_rfl) (fun K hK => ?_); go_simp)
          clear cs fs zs
          obtain ⟨wn, hwn⟩ : ∃ W, W = puts wk4 b7 0 [.slice xa0 d.more.length xc0, .slice xa1 d.gone.length xc1, .slice xa2 d.grow.length xc2, .slice xa3 d.ungrow.length xc3, .slice xa4 d.shrink.length xc4, .slice xa5 d.unshrink.length xc5] := ⟨_, rfl⟩
          have hch : ((((((wk4.setCell ⟨b7, 0, none⟩ (.slice xa0 d.more.length xc0)).setCell ⟨b7, 1, none⟩ (.slice xa1 d.gone.length xc1)).setCell ⟨b7, 2, none⟩ (.slice xa2 d.grow.length xc2)).setCell ⟨b7, 3, none⟩ (.slice xa3 d.ungrow.length xc3)).setCell ⟨b7, 4, none⟩ (.slice xa4 d.shrink.length xc4)).setCell ⟨b7, 5, none⟩ (.slice xa5 d.unshrink.length xc5)) = wn := hwn.symm
          rw [hch]
          clear hch
          have HBS : BlkS wk4 b7 6 := ⟨_, H7, rfl, by simp [isSl]⟩
          have HT := HT.puts (g := b7) (by omega) [.slice xa0 d.more.length xc0, .slice xa1 d.gone.length xc1, .slice xa2 d.grow.length xc2, .slice xa3 d.ungrow.length xc3, .slice xa4 d.shrink.length xc4, .slice xa5 d.unshrink.length xc5]
          have HX := HX.puts [.slice xa0 d.more.length xc0, .slice xa1 d.gone.length xc1, .slice xa2 d.grow.length xc2, .slice xa3 d.ungrow.length xc3, .slice xa4 d.shrink.length xc4, .slice xa5 d.unshrink.length xc5] HBS (by simp) (by simp [isSl])
          have HY := HY.puts [.slice xa0 d.more.length xc0, .slice xa1 d.gone.length xc1, .slice xa2 d.grow.length xc2, .slice xa3 d.ungrow.length xc3, .slice xa4 d.shrink.length xc4, .slice xa5 d.unshrink.length xc5] HBS (by simp) (by simp [isSl])
          have H7 := H7.six (.slice xa0 d.more.length xc0) (.slice xa1 d.gone.length xc1) (.slice xa2 d.grow.length xc2) (.slice xa3 d.ungrow.length xc3) (.slice xa4 d.shrink.length xc4) (.slice xa5 d.unshrink.length xc5)
          have H8 := H8.puts_far (g := b7) (by omega) [.slice xa0 d.more.length xc0, .slice xa1 d.gone.length xc1, .slice xa2 d.grow.length xc2, .slice xa3 d.ungrow.length xc3, .slice xa4 d.shrink.length xc4, .slice xa5 d.unshrink.length xc5] 0 wk4
          rw [← hwn] at HT HX HY H7 H8
          clear hwn HBS
          (refine hK.out _ _ (⟨HT.a.1, HT.b.1⟩) (fun hHeld => ?_); clear hK K; (try simp only [Act.put, List.setIfInBounds_toArray, List.set_cons_zero, List.set_cons_succ]))
          generalize wn = wn8 at *
          have Hc := H8
          obtain ⟨cs, fs, zs⟩ := Hc
          (refine held_call 9 rfl (by kernel_rfl) (fun K hK => ?_); go_simp)
          clear cs fs zs
          obtain ⟨wn, hwn⟩ : ∃ W, W = puts wn8 b8 0 [.slice ya0 d.more.length yc0, .slice ya1 d.gone.length yc1, .slice ya2 d.grow.length yc2, .slice ya3 d.ungrow.length yc3, .slice ya4 d.shrink.length yc4, .slice ya5 d.unshrink.length yc5] := ⟨_, rfl⟩
          have hch : ((((((wn8.setCell ⟨b8, 0, none⟩ (.slice ya0 d.more.length yc0)).setCell ⟨b8, 1, none⟩ (.slice ya1 d.gone.length yc1)).setCell ⟨b8, 2, none⟩ (.slice ya2 d.grow.length yc2)).setCell ⟨b8, 3, none⟩ (.slice ya3 d.ungrow.length yc3)).setCell ⟨b8, 4, none⟩ (.slice ya4 d.shrink.length yc4)).setCell ⟨b8, 5, none⟩ (.slice ya5 d.unshrink.length yc5)) = wn := hwn.symm
          rw [hch]
          clear hch
          have HBS : BlkS wn8 b8 6 := ⟨_, H8, rfl, by simp [isSl]⟩
          have HT := HT.puts (g := b8) (by omega) [.slice ya0 d.more.length yc0, .slice ya1 d.gone.length yc1, .slice ya2 d.grow.length yc2, .slice ya3 d.ungrow.length yc3, .slice ya4 d.shrink.length yc4, .slice ya5 d.unshrink.length yc5]
          have HX := HX.puts [.slice ya0 d.more.length yc0, .slice ya1 d.gone.length yc1, .slice ya2 d.grow.length yc2, .slice ya3 d.ungrow.length yc3, .slice ya4 d.shrink.length yc4, .slice ya5 d.unshrink.length yc5] HBS (by simp) (by simp [isSl])
          have HY := HY.puts [.slice ya0 d.more.length yc0, .slice ya1 d.gone.length yc1, .slice ya2 d.grow.length yc2, .slice ya3 d.ungrow.length yc3, .slice ya4 d.shrink.length yc4, .slice ya5 d.unshrink.length yc5] HBS (by simp) (by simp [isSl])
          have H8 := H8.six (.slice ya0 d.more.length yc0) (.slice ya1 d.gone.length yc1) (.slice ya2 d.grow.length yc2) (.slice ya3 d.ungrow.length yc3) (.slice ya4 d.shrink.length yc4) (.slice ya5 d.unshrink.length yc5)
          have H7 := H7.puts_far (g := b8) (by omega) [.slice ya0 d.more.length yc0, .slice ya1 d.gone.length yc1, .slice ya2 d.grow.length yc2, .slice ya3 d.ungrow.length yc3, .slice ya4 d.shrink.length yc4, .slice ya5 d.unshrink.length yc5] 0 wn8
          rw [← hwn] at HT HX HY H7 H8
          clear hwn HBS
          (refine hK.out _ _ (⟨HT.a.1, HT.b.1⟩) (fun hHeld => ?_); clear hK K; (try simp only [Act.put, List.setIfInBounds_toArray, List.set_cons_zero, List.set_cons_succ]))
          refine wpAnyH_done (by kernel_rfl) ?_ _
          go_wp2_with fail
          go_meet
          exact ⟨b7, b8, xa0, ya0, xa1, ya1, xa2, ya2, xa3, ya3, xa4, ya4, xa5, ya5, xc0, yc0, xc1, yc1, xc2, yc2, xc3, yc3, xc4, yc4, xc5, yc5, rfl, rfl, Lib.hid ⟨HT, H7, H8, HX, HY⟩⟩
        · go_simp
          obtain ⟨b8, hb8⟩ : ∃ b, b = wk2.heap.size := ⟨_, rfl⟩
          obtain ⟨wk3, hwn⟩ : ∃ V, V = wk2.alloc (.cells #[.slice none 0 0, .slice none 0 0, .slice none 0 0, .slice none 0 0, .slice none 0 0, .slice none 0 0] 32) := ⟨_, rfl⟩
          rw [← hwn, ← hb8]
          have hbq : Below wk2.heap.size wk2 wk3 := by rw [hwn]; exact (Below.refl _ _).alloc (Nat.le_refl _) _
          have H8 : Blk wk3 b8 #[.slice none 0 0, .slice none 0 0, .slice none 0 0, .slice none 0 0, .slice none 0 0, .slice none 0 0] := by rw [hwn, hb8]; exact Blk.new _ _ _
          have lb8 : w.heap.size + 2 < b8 := by rw [hb8]; exact HT.c.2.2
          have HX := HX.below hbq
          have HY := HY.below hbq
          have HT := HT.later hbq
          clear hbq hwn hb8
          (refine hK.out _ _ (⟨HT.a.1, HT.b.1⟩) (fun hHeld => ?_); clear hK K; (try simp only [Act.put, List.setIfInBounds_toArray, List.set_cons_zero, List.set_cons_succ]))
          (refine held_call 6 rfl (by kernel_rfl) (fun K hK => ?_); go_simp)
          obtain ⟨b7, hb7⟩ : ∃ b, b = wk3.heap.size := ⟨_, rfl⟩
          obtain ⟨wk4, hwn⟩ : ∃ V, V = wk3.alloc (.cells #[.slice none 0 0, .slice none 0 0, .slice none 0 0, .slice none 0 0, .slice none 0 0, .slice none 0 0] 30) := ⟨_, rfl⟩
          rw [← hwn, ← hb7]
          have hbq : Below wk3.heap.size wk3 wk4 := by rw [hwn]; exact (Below.refl _ _).alloc (Nat.le_refl _) _
          have H7 : Blk wk4 b7 #[.slice none 0 0, .slice none 0 0, .slice none 0 0, .slice none 0 0, .slice none 0 0, .slice none 0 0] := by rw [hwn, hb7]; exact Blk.new _ _ _
          have lb7 : w.heap.size + 2 < b7 := by rw [hb7]; exact HT.c.2.2
          have hne : b8 < b7 := by rw [hb7]; exact H8.2.2
          have HX := HX.below hbq
          have HY := HY.below hbq
          have H8 := H8.below hbq
          have HT := HT.later hbq
          clear hbq hwn hb7
          (refine hK.out _ _ (⟨HT.a.1, HT.b.1⟩) (fun hHeld => ?_); clear hK K; (try simp only [Act.put, List.setIfInBounds_toArray, List.set_cons_zero, List.set_cons_succ]))
          have Hc := H7
          obtain ⟨cs, fs, zs⟩ := Hc
          (refine held_call 8 rfl (by kernel_rfl) (fun K hK => ?_); go_simp)
          clear cs fs zs
          obtain ⟨wn, hwn⟩ : ∃ W, W = puts wk4 b7 0 [.slice xa0 d.more.length xc0, .slice xa1 d.gone.length xc1, .slice xa2 d.grow.length xc2, .slice xa3 d.ungrow.length xc3, .slice xa4 d.shrink.length xc4, .slice xa5 d.unshrink.length xc5] := ⟨_, rfl⟩
          have hch : ((((((wk4.setCell ⟨b7, 0, none⟩ (.slice xa0 d.more.length xc0)).setCell ⟨b7, 1, none⟩ (.slice xa1 d.gone.length xc1)).setCell ⟨b7, 2, none⟩ (.slice xa2 d.grow.length xc2)).setCell ⟨b7, 3, none⟩ (.slice xa3 d.ungrow.length xc3)).setCell ⟨b7, 4, none⟩ (.slice xa4 d.shrink.length xc4)).setCell ⟨b7, 5, none⟩ (.slice xa5 d.unshrink.length xc5)) = wn := hwn.symm
          rw [hch]
          clear hch
          have HBS : BlkS wk4 b7 6 := ⟨_, H7, rfl, by simp [isSl]⟩
          have HT := HT.puts (g := b7) (by omega) [.slice xa0 d.more.length xc0, .slice xa1 d.gone.length xc1, .slice xa2 d.grow.length xc2, .slice xa3 d.ungrow.length xc3, .slice xa4 d.shrink.length xc4, .slice xa5 d.unshrink.length xc5]
          have HX := HX.puts [.slice xa0 d.more.length xc0, .slice xa1 d.gone.length xc1, .slice xa2 d.grow.length xc2, .slice xa3 d.ungrow.length xc3, .slice xa4 d.shrink.length xc4, .slice xa5 d.unshrink.length xc5] HBS (by simp) (by simp [isSl])
          have HY := HY.puts [.slice xa0 d.more.length xc0, .slice xa1 d.gone.length xc1, .slice xa2 d.grow.length xc2, .slice xa3 d.ungrow.length xc3, .slice xa4 d.shrink.length xc4, .slice xa5 d.unshrink.length xc5] HBS (by simp) (by simp [isSl])
          have H7 := H7.six (.slice xa0 d.more.length xc0) (.slice xa1 d.gone.length xc1) (.slice xa2 d.grow.length xc2) (.slice xa3 d.ungrow.length xc3) (.slice xa4 d.shrink.length xc4) (.slice xa5 d.unshrink.length xc5)
          have H8 := H8.puts_far (g := b7) (by omega) [.slice xa0 d.more.length xc0, .slice xa1 d.gone.length xc1, .slice xa2 d.grow.length xc2, .slice xa3 d.ungrow.length xc3, .slice xa4 d.shrink.length xc4, .slice xa5 d.unshrink.length xc5] 0 wk4
          rw [← hwn] at HT HX HY H7 H8
          clear hwn HBS
          (refine hK.out _ _ (⟨HT.a.1, HT.b.1⟩) (fun hHeld => ?_); clear hK K; (try simp only [Act.put, List.setIfInBounds_toArray, List.set_cons_zero, List.set_cons_succ]))
          generalize wn = wn8 at *
          have Hc := H8
          obtain ⟨cs, fs, zs⟩ := Hc
          (refine held_call 9 rfl (by kernel_rfl) (fun K hK => ?_); go_simp)
          clear cs fs zs
          obtain ⟨wn, hwn⟩ : ∃ W, W = puts wn8 b8 0 [.slice ya0 d.more.length yc0, .slice ya1 d.gone.length yc1, .slice ya2 d.grow.length yc2, .slice ya3 d.ungrow.length yc3, .slice ya4 d.shrink.length yc4, .slice ya5 d.unshrink.length yc5] := ⟨_, rfl⟩
          have hch : ((((((wn8.setCell ⟨b8, 0, none⟩ (.slice ya0 d.more.length yc0)).setCell ⟨b8, 1, none⟩ (.slice ya1 d.gone.length yc1)).setCell ⟨b8, 2, none⟩ (.slice ya2 d.grow.length yc2)).setCell ⟨b8, 3, none⟩ (.slice ya3 d.ungrow.length yc3)).setCell ⟨b8, 4, none⟩ (.slice ya4 d.shrink.length yc4)).setCell ⟨b8, 5, none⟩ (.slice ya5 d.unshrink.length yc5)) = wn := hwn.symm
          rw [hch]
          clear hch
          have HBS : BlkS wn8 b8 6 := ⟨_, H8, rfl, by simp [isSl]⟩
          have HT := HT.puts (g := b8) (by omega) [.slice ya0 d.more.length yc0, .slice ya1 d.gone.length yc1, .slice ya2 d.grow.length yc2, .slice ya3 d.ungrow.length yc3, .slice ya4 d.shrink.length yc4, .slice ya5 d.unshrink.length yc5]
          have HX := HX.puts [.slice ya0 d.more.length yc0, .slice ya1 d.gone.length yc1, .slice ya2 d.grow.length yc2, .slice ya3 d.ungrow.length yc3, .slice ya4 d.shrink.length yc4, .slice ya5 d.unshrink.length yc5] HBS (by simp) (by simp [isSl])
          have HY := HY.puts [.slice ya0 d.more.length yc0, .slice ya1 d.gone.length yc1, .slice ya2 d.grow.length yc2, .slice ya3 d.ungrow.length yc3, .slice ya4 d.shrink.length yc4, .slice ya5 d.unshrink.length yc5] HBS (by simp) (by simp [isSl])
          have H8 := H8.six (.slice ya0 d.more.length yc0) (.slice ya1 d.gone.length yc1) (.slice ya2 d.grow.length yc2) (.slice ya3 d.ungrow.length yc3) (.slice ya4 d.shrink.length yc4) (.slice ya5 d.unshrink.length yc5)
          have H7 := H7.puts_far (g := b8) (by omega) [.slice ya0 d.more.length yc0, .slice ya1 d.gone.length yc1, .slice ya2 d.grow.length yc2, .slice ya3 d.ungrow.length yc3, .slice ya4 d.shrink.length yc4, .slice ya5 d.unshrink.length yc5] 0 wn8
          rw [← hwn] at HT HX HY H7 H8
          clear hwn HBS
          (refine hK.out _ _ (⟨HT.a.1, HT.b.1⟩) (fun hHeld => ?_); clear hK K; (try simp only [Act.put, List.setIfInBounds_toArray, List.set_cons_zero, List.set_cons_succ]))
          refine wpAnyH_done (by kernel_rfl) ?_ _
          go_wp2_with fail
          go_meet
          exact ⟨b7, b8, xa0, ya0, xa1, ya1, xa2, ya2, xa3, ya3, xa4, ya4, xa5, ya5, xc0, yc0, xc1, yc1, xc2, yc2, xc3, yc3, xc4, yc4, xc5, yc5, rfl, rfl, Lib.hid ⟨HT, H7, H8, HX, HY⟩⟩
      · go_simp
        obtain ⟨b7, hb7⟩ : ∃ b, b = wk1.heap.size := ⟨_, rfl⟩
        obtain ⟨wk2, hwn⟩ : ∃ V, V = wk1.alloc (.cells #[.slice none 0 0, .slice none 0 0, .slice none 0 0, .slice none 0 0, .slice none 0 0, .slice none 0 0] 30) := ⟨_, rfl⟩
        rw [← hwn, ← hb7]
        have hbq : Below wk1.heap.size wk1 wk2 := by rw [hwn]; exact (Below.refl _ _).alloc (Nat.le_refl _) _
        have H7 : Blk wk2 b7 #[.slice none 0 0, .slice none 0 0, .slice none 0 0, .slice none 0 0, .slice none 0 0, .slice none 0 0] := by rw [hwn, hb7]; exact Blk.new _ _ _
        have lb7 : w.heap.size + 2 < b7 := by rw [hb7]; exact HT.c.2.2
        have HX := HX.below hbq
        have HT := HT.later hbq
        clear hbq hwn hb7
        (refine hK.out _ _ (⟨HT.a.1, HT.b.1⟩) (fun hHeld => ?_); clear hK K; (try simp only [Act.put, List.setIfInBounds_toArray, List.set_cons_zero, List.set_cons_succ]))
        refine wpAnyH_ready (rs := [5, 7]) (by kernel_rfl) (by simp) (AllReadyH.cons rfl (fun K hK => ?_) (AllReadyH.cons rfl (fun K hK => ?_) AllReadyH.nil))
        · go_simp
          go_at_call 8; refine (RF.out _ HT.low).mono ?_; rintro e wk3 ⟨z, rfl, ⟨z0, z1, z2, z3, z4, z5, rfl, hz⟩, hbq⟩
          obtain ⟨ya0, yc0, rfl⟩ := hz.a0.form
          obtain ⟨ya1, yc1, rfl⟩ := hz.a1.form
          obtain ⟨ya2, yc2, rfl⟩ := hz.a2.form
          obtain ⟨ya3, yc3, rfl⟩ := hz.a3.form
          obtain ⟨ya4, yc4, rfl⟩ := hz.a4.form
          obtain ⟨ya5, yc5, rfl⟩ := hz.a5.form
          have HX := HX.below hbq
          have H7 := H7.below hbq
          have HT := HT.later hbq
          have HY := hz
          clear hz hbq
          (refine hK.out _ _ (⟨HT.a.1, HT.b.1⟩) (fun hHeld => ?_); clear hK K; (try simp only [Act.put, List.setIfInBounds_toArray, List.set_cons_zero, List.set_cons_succ]))
          (refine held_call 7 rfl (by kernel_rfl) (fun K hK => ?_); go_simp)
          obtain ⟨b8, hb8⟩ : ∃ b, b = wk3.heap.size := ⟨_, rfl⟩
          obtain ⟨wk4, hwn⟩ : ∃ V, V = wk3.alloc (.cells #[.slice none 0 0, .slice none 0 0, .slice none 0 0, .slice none 0 0, .slice none 0 0, .slice none 0 0] 32) := ⟨_, rfl⟩
          rw [← hwn, ← hb8]
          have hbq : Below wk3.heap.size wk3 wk4 := by rw [hwn]; exact (Below.refl _ _).alloc (Nat.le_refl _) _
          have H8 : Blk wk4 b8 #[.slice none 0 0, .slice none 0 0, .slice none 0 0, .slice none 0 0, .slice none 0 0, .slice none 0 0] := by rw [hwn, hb8]; exact Blk.new _ _ _
          have lb8 : w.heap.size + 2 < b8 := by rw [hb8]; exact HT.c.2.2
          have hne : b7 < b8 := by rw [hb8]; exact H7.2.2
          have HX := HX.below hbq
          have HY := HY.below hbq
          have H7 := H7.below hbq
          have HT := HT.later hbq
          clear hbq hwn hb8
          (refine hK.out _ _ (⟨HT.a.1, HT.b.1⟩) (fun hHeld => ?_); clear hK K; (try simp only [Act.put, List.setIfInBounds_toArray, List.set_cons_zero, List.set_cons_succ]))
          have Hc := H7
          obtain ⟨cs, fs, zs⟩ := Hc
          (refine held_call 8 rfl (by kernel_rfl) (fun K hK => ?_); go_simp)
          clear cs fs zs
          obtain ⟨wn, hwn⟩ : ∃ W, W = puts wk4 b7 0 [.slice xa0 d.more.length xc0, .slice xa1 d.gone.length xc1, .slice xa2 d.grow.length xc2, .slice xa3 d.ungrow.length xc3, .slice xa4 d.shrink.length xc4, .slice xa5 d.unshrink.length xc5] := ⟨_, rfl⟩
          have hch : ((((((wk4.setCell ⟨b7, 0, none⟩ (.slice xa0 d.more.length xc0)).setCell ⟨b7, 1, none⟩ (.slice xa1 d.gone.length xc1)).setCell ⟨b7, 2, none⟩ (.slice xa2 d.grow.length xc2)).setCell ⟨b7, 3, none⟩ (.slice xa3 d.ungrow.length xc3)).setCell ⟨b7, 4, none⟩ (.slice xa4 d.shrink.length xc4)).setCell ⟨b7, 5, none⟩ (.slice xa5 d.unshrink.length xc5)) = wn := hwn.symm
          rw [hch]
          clear hch
          have HBS : BlkS wk4 b7 6 := ⟨_, H7, rfl, by simp [isSl]⟩
          have HT := HT.puts (g := b7) (by omega) [.slice xa0 d.more.length xc0, .slice xa1 d.gone.length xc1, .slice xa2 d.grow.length xc2, .slice xa3 d.ungrow.length xc3, .slice xa4 d.shrink.length xc4, .slice xa5 d.unshrink.length xc5]
          have HX := HX.puts [.slice xa0 d.more.length xc0, .slice xa1 d.gone.length xc1, .slice xa2 d.grow.length xc2, .slice xa3 d.ungrow.length xc3, .slice xa4 d.shrink.length xc4, .slice xa5 d.unshrink.length xc5] HBS (by simp) (by simp [isSl])
          have HY := HY.puts [.slice xa0 d.more.length xc0, .slice xa1 d.gone.length xc1, .slice xa2 d.grow.length xc2, .slice xa3 d.ungrow.length xc3, .slice xa4 d.shrink.length xc4, .slice xa5 d.unshrink.length xc5] HBS (by simp) (by simp [isSl])
          have H7 := H7.six (.slice xa0 d.more.length xc0) (.slice xa1 d.gone.length xc1) (.slice xa2 d.grow.length xc2) (.slice xa3 d.ungrow.length xc3) (.slice xa4 d.shrink.length xc4) (.slice xa5 d.unshrink.length xc5)
          have H8 := H8.puts_far (g := b7) (by omega) [.slice xa0 d.more.length xc0, .slice xa1 d.gone.length xc1, .slice xa2 d.grow.length xc2, .slice xa3 d.ungrow.length xc3, .slice xa4 d.shrink.length xc4, .slice xa5 d.unshrink.length xc5] 0 wk4
          rw [← hwn] at HT HX HY H7 H8
          clear hwn HBS
          (refine hK.out _ _ (⟨HT.a.1, HT.b.1⟩) (fun hHeld => ?_); clear hK K; (try simp only [Act.put, List.setIfInBounds_toArray, List.set_cons_zero, List.set_cons_succ]))
          generalize wn = wn8 at *
          have Hc := H8
          obtain ⟨cs, fs, zs⟩ := Hc
          (refine held_call 9 rfl (by kernel_rfl) (fun K hK => ?_); go_simp)
          clear cs fs zs
          obtain ⟨wn, hwn⟩ : ∃ W, W = puts wn8 b8 0 [.slice ya0 d.more.length yc0, .slice ya1 d.gone.length yc1, .slice ya2 d.grow.length yc2, .slice ya3 d.ungrow.length yc3, .slice ya4 d.shrink.length yc4, .slice ya5 d.unshrink.length yc5] := ⟨_, rfl⟩
          have hch : ((((((wn8.setCell ⟨b8, 0, none⟩ (.slice ya0 d.more.length yc0)).setCell ⟨b8, 1, none⟩ (.slice ya1 d.gone.length yc1)).setCell ⟨b8, 2, none⟩ (.slice ya2 d.grow.length yc2)).setCell ⟨b8, 3, none⟩ (.slice ya3 d.ungrow.length yc3)).setCell ⟨b8, 4, none⟩ (.slice ya4 d.shrink.length yc4)).setCell ⟨b8, 5, none⟩ (.slice ya5 d.unshrink.length yc5)) = wn := hwn.symm
          rw [hch]
          clear hch
          have HBS : BlkS wn8 b8 6 := ⟨_, H8, rfl, by simp [isSl]⟩
          have HT := HT.puts (g := b8) (by omega) [.slice ya0 d.more.length yc0, .slice ya1 d.gone.length yc1, .slice ya2 d.grow.length yc2, .slice ya3 d.ungrow.length yc3, .slice ya4 d.shrink.length yc4, .slice ya5 d.unshrink.length yc5]
          have HX := HX.puts [.slice ya0 d.more.length yc0, .slice ya1 d.gone.length yc1, .slice ya2 d.grow.length yc2, .slice ya3 d.ungrow.length yc3, .slice ya4 d.shrink.length yc4, .slice ya5 d.unshrink.length yc5] HBS (by simp) (by simp [isSl])
          have HY := HY.puts [.slice ya0 d.more.length yc0, .slice ya1 d.gone.length yc1, .slice ya2 d.grow.length yc2, .slice ya3 d.ungrow.length yc3, .slice ya4 d.shrink.length yc4, .slice ya5 d.unshrink.length yc5] HBS (by simp) (by simp [isSl])
          have H8 := H8.six (.slice ya0 d.more.length yc0) (.slice ya1 d.gone.length yc1) (.slice ya2 d.grow.length yc2) (.slice ya3 d.ungrow.length yc3) (.slice ya4 d.shrink.length yc4) (.slice ya5 d.unshrink.length yc5)
          have H7 := H7.puts_far (g := b8) (by omega) [.slice ya0 d.more.length yc0, .slice ya1 d.gone.length yc1, .slice ya2 d.grow.length yc2, .slice ya3 d.ungrow.length yc3, .slice ya4 d.shrink.length yc4, .slice ya5 d.unshrink.length yc5] 0 wn8
          rw [← hwn] at HT HX HY H7 H8
          clear hwn HBS
          (refine hK.out _ _ (⟨HT.a.1, HT.b.1⟩) (fun hHeld => ?_); clear hK K; (try simp only [Act.put, List.setIfInBounds_toArray, List.set_cons_zero, List.set_cons_succ]))
          refine wpAnyH_done (by kernel_rfl) ?_ _
          go_wp2_with fail
          go_meet
          exact ⟨b7, b8, xa0, ya0, xa1, ya1, xa2, ya2, xa3, ya3, xa4, ya4, xa5, ya5, xc0, yc0, xc1, yc1, xc2, yc2, xc3, yc3, xc4, yc4, xc5, yc5, rfl, rfl, Lib.hid ⟨HT, H7, H8, HX, HY⟩⟩
        · go_simp
          obtain ⟨b8, hb8⟩ : ∃ b, b = wk2.heap.size := ⟨_, rfl⟩
          obtain ⟨wk3, hwn⟩ : ∃ V, V = wk2.alloc (.cells #[.slice none 0 0, .slice none 0 0, .slice none 0 0, .slice none 0 0, .slice none 0 0, .slice none 0 0] 32) := ⟨_, rfl⟩
          rw [← hwn, ← hb8]
          have hbq : Below wk2.heap.size wk2 wk3 := by rw [hwn]; exact (Below.refl _ _).alloc (Nat.le_refl _) _
          have H8 : Blk wk3 b8 #[.slice none 0 0, .slice none 0 0, .slice none 0 0, .slice none 0 0, .slice none 0 0, .slice none 0 0] := by rw [hwn, hb8]; exact Blk.new _ _ _
          have lb8 : w.heap.size + 2 < b8 := by rw [hb8]; exact HT.c.2.2
          have hne : b7 < b8 := by rw [hb8]; exact H7.2.2
          have HX := HX.below hbq
          have H7 := H7.below hbq
          have HT := HT.later hbq
          clear hbq hwn hb8
          (refine hK.out _ _ (⟨HT.a.1, HT.b.1⟩) (fun hHeld => ?_); clear hK K; (try simp only [Act.put, List.setIfInBounds_toArray, List.set_cons_zero, List.set_cons_succ]))
          (refine held_call 5 rfl (by kernel_rfl) (fun K hK => ?_); go_simp)
          go_at_call 8; refine (RF.out _ HT.low).mono ?_; rintro e wk4 ⟨z, rfl, ⟨z0, z1, z2, z3, z4, z5, rfl, hz⟩, hbq⟩
          obtain ⟨ya0, yc0, rfl⟩ := hz.a0.form
          obtain ⟨ya1, yc1, rfl⟩ := hz.a1.form
          obtain ⟨ya2, yc2, rfl⟩ := hz.a2.form
          obtain ⟨ya3, yc3, rfl⟩ := hz.a3.form
          obtain ⟨ya4, yc4, rfl⟩ := hz.a4.form
          obtain ⟨ya5, yc5, rfl⟩ := hz.a5.form
          have HX := HX.below hbq
          have H7 := H7.below hbq
          have H8 := H8.below hbq
          have HT := HT.later hbq
          have HY := hz
          clear hz hbq
          (refine hK.out _ _ (⟨HT.a.1, HT.b.1⟩) (fun hHeld => ?_); clear hK K; (try simp only [Act.put, List.setIfInBounds_toArray, List.set_cons_zero, List.set_cons_succ]))
          have Hc := H7
          obtain ⟨cs, fs, zs⟩ := Hc
          (refine held_call 8 rfl (by kernel_rfl) (fun K hK => ?_); go_simp)
          clear cs fs zs
          obtain ⟨wn, hwn⟩ : ∃ W, W = puts wk4 b7 0 [.slice xa0 d.more.length xc0, .slice xa1 d.gone.length xc1, .slice xa2 d.grow.length xc2, .slice xa3 d.ungrow.length xc3, .slice xa4 d.shrink.length xc4, .slice xa5 d.unshrink.length xc5] := ⟨_, rfl⟩
          have hch : ((((((wk4.setCell ⟨b7, 0, none⟩ (.slice xa0 d.more.length xc0)).setCell ⟨b7, 1, none⟩ (.slice xa1 d.gone.length xc1)).setCell ⟨b7, 2, none⟩ (.slice xa2 d.grow.length xc2)).setCell ⟨b7, 3, none⟩ (.slice xa3 d.ungrow.length xc3)).setCell ⟨b7, 4, none⟩ (.slice xa4 d.shrink.length xc4)).setCell ⟨b7, 5, none⟩ (.slice xa5 d.unshrink.length xc5)) = wn := hwn.symm
          rw [hch]
          clear hch
          have HBS : BlkS wk4 b7 6 := ⟨_, H7, rfl, by simp [isSl]⟩
          have HT := HT.puts (g := b7) (by omega) [.slice xa0 d.more.length xc0, .slice xa1 d.gone.length xc1, .slice xa2 d.grow.length xc2, .slice xa3 d.ungrow.length xc3, .slice xa4 d.shrink.length xc4, .slice xa5 d.unshrink.length xc5]
          have HX := HX.puts [.slice xa0 d.more.length xc0, .slice xa1 d.gone.length xc1, .slice xa2 d.grow.length xc2, .slice xa3 d.ungrow.length xc3, .slice xa4 d.shrink.length xc4, .slice xa5 d.unshrink.length xc5] HBS (by simp) (by simp [isSl])
          have HY := HY.puts [.slice xa0 d.more.length xc0, .slice xa1 d.gone.length xc1, .slice xa2 d.grow.length xc2, .slice xa3 d.ungrow.length xc3, .slice xa4 d.shrink.length xc4, .slice xa5 d.unshrink.length xc5] HBS (by simp) (by simp [isSl])
          have H7 := H7.six (.slice xa0 d.more.length xc0) (.slice xa1 d.gone.length xc1) (.slice xa2 d.grow.length xc2) (.slice xa3 d.ungrow.length xc3) (.slice xa4 d.shrink.length xc4) (.slice xa5 d.unshrink.length xc5)
          have H8 := H8.puts_far (g := b7) (by omega) [.slice xa0 d.more.length xc0, .slice xa1 d.gone.length xc1, .slice xa2 d.grow.length xc2, .slice xa3 d.ungrow.length xc3, .slice xa4 d.shrink.length xc4, .slice xa5 d.unshrink.length xc5] 0 wk4
          rw [← hwn] at HT HX HY H7 H8
          clear hwn HBS
          (refine hK.out _ _ (⟨HT.a.1, HT.b.1⟩) (fun hHeld => ?_); clear hK K; (try simp only [Act.put, List.setIfInBounds_toArray, List.set_cons_zero, List.set_cons_succ]))
          generalize wn = wn8 at *
          have Hc := H8
          obtain ⟨cs, fs, zs⟩ := Hc
          (refine held_call 9 rfl (by kernel_rfl) (fun K hK => ?_); go_simp)
          clear cs fs zs
          obtain ⟨wn, hwn⟩ : ∃ W, W = puts wn8 b8 0 [.slice ya0 d.more.length yc0, .slice ya1 d.gone.length yc1, .slice ya2 d.grow.length yc2, .slice ya3 d.ungrow.length yc3, .slice ya4 d.shrink.length yc4, .slice ya5 d.unshrink.length yc5] := ⟨_, rfl⟩
          have hch : ((((((wn8.setCell ⟨b8, 0, none⟩ (.slice ya0 d.more.length yc0)).setCell ⟨b8, 1, none⟩ (.slice ya1 d.gone.length yc1)).setCell ⟨b8, 2, none⟩ (.slice ya2 d.grow.length yc2)).setCell ⟨b8, 3, none⟩ (.slice ya3 d.ungrow.length yc3)).setCell ⟨b8, 4, none⟩ (.slice ya4 d.shrink.length yc4)).setCell ⟨b8, 5, none⟩ (.slice ya5 d.unshrink.length yc5)) = wn := hwn.symm
          rw [hch]
          clear hch
          have HBS : BlkS wn8 b8 6 := ⟨_, H8, rfl, by simp [isSl]⟩
          have HT := HT.puts (g := b8) (by omega) [.slice ya0 d.more.length yc0, .slice ya1 d.gone.length yc1, .slice ya2 d.grow.length yc2, .slice ya3 d.ungrow.length yc3, .slice ya4 d.shrink.length yc4, .slice ya5 d.unshrink.length yc5]
          have HX := HX.puts [.slice ya0 d.more.length yc0, .slice ya1 d.gone.length yc1, .slice ya2 d.grow.length yc2, .slice ya3 d.ungrow.length yc3, .slice ya4 d.shrink.length yc4, .slice ya5 d.unshrink.length yc5] HBS (by simp) (by simp [isSl])
          have HY := HY.puts [.slice ya0 d.more.length yc0, .slice ya1 d.gone.length yc1, .slice ya2 d.grow.length yc2, .slice ya3 d.ungrow.length yc3, .slice ya4 d.shrink.length yc4, .slice ya5 d.unshrink.length yc5] HBS (by simp) (by simp [isSl])
          have H8 := H8.six (.slice ya0 d.more.length yc0) (.slice ya1 d.gone.length yc1) (.slice ya2 d.grow.length yc2) (.slice ya3 d.ungrow.length yc3) (.slice ya4 d.shrink.length yc4) (.slice ya5 d.unshrink.length yc5)
          have H7 := H7.puts_far (g := b8) (by omega) [.slice ya0 d.more.length yc0, .slice ya1 d.gone.length yc1, .slice ya2 d.grow.length yc2, .slice ya3 d.ungrow.length yc3, .slice ya4 d.shrink.length yc4, .slice ya5 d.unshrink.length yc5] 0 wn8
          rw [← hwn] at HT HX HY H7 H8
          clear hwn HBS
          (refine hK.out _ _ (⟨HT.a.1, HT.b.1⟩) (fun hHeld => ?_); clear hK K; (try simp only [Act.put, List.setIfInBounds_toArray, List.set_cons_zero, List.set_cons_succ]))
          refine wpAnyH_done (by kernel_rfl) ?_ _
          go_wp2_with fail
          go_meet
          exact ⟨b7, b8, xa0, ya0, xa1, ya1, xa2, ya2, xa3, ya3, xa4, ya4, xa5, ya5, xc0, yc0, xc1, yc1, xc2, yc2, xc3, yc3, xc4, yc4, xc5, yc5, rfl, rfl, Lib.hid ⟨HT, H7, H8, HX, HY⟩⟩
      · go_simp
        obtain ⟨b8, hb8⟩ : ∃ b, b = wk1.heap.size := ⟨_, rfl⟩
        obtain ⟨wk2, hwn⟩ : ∃ V, V = wk1.alloc (.cells #[.slice none 0 0, .slice none 0 0, .slice none 0 0, .slice none 0 0, .slice none 0 0, .slice none 0 0] 32) := ⟨_, rfl⟩
        rw [← hwn, ← hb8]
        have hbq : Below wk1.heap.size wk1 wk2 := by rw [hwn]; exact (Below.refl _ _).alloc (Nat.le_refl _) _
        have H8 : Blk wk2 b8 #[.slice none 0 0, .slice none 0 0, .slice none 0 0, .slice none 0 0, .slice none 0 0, .slice none 0 0] := by rw [hwn, hb8]; exact Blk.new _ _ _
        have lb8 : w.heap.size + 2 < b8 := by rw [hb8]; exact HT.c.2.2
        have HX := HX.below hbq
        have HT := HT.later hbq
        clear hbq hwn hb8
        (refine hK.out _ _ (⟨HT.a.1, HT.b.1⟩) (fun hHeld => ?_); clear hK K; (try simp only [Act.put, List.setIfInBounds_toArray, List.set_cons_zero, List.set_cons_succ]))
        refine wpAnyH_ready (rs := [5, 6]) (by kernel_rfl) (by simp) (AllReadyH.cons rfl (fun K hK => ?_) (AllReadyH.cons rfl (fun K hK => ?_) AllReadyH.nil))
        · go_simp
          go_at_call 8; refine (RF.out _ HT.low).mono ?_; rintro e wk3 ⟨z, rfl, ⟨z0, z1, z2, z3, z4, z5, rfl, hz⟩, hbq⟩
          obtain ⟨ya0, yc0, rfl⟩ := hz.a0.form
          obtain ⟨ya1, yc1, rfl⟩ := hz.a1.form
          obtain ⟨ya2, yc2, rfl⟩ := hz.a2.form
          obtain ⟨ya3, yc3, rfl⟩ := hz.a3.form
          obtain ⟨ya4, yc4, rfl⟩ := hz.a4.form
          obtain ⟨ya5, yc5, rfl⟩ := hz.a5.form
          have HX := HX.below hbq
          have H8 := H8.below hbq
          have HT := HT.later hbq
          have HY := hz
          clear hz hbq
          (refine hK.out _ _ (⟨HT.a.1, HT.b.1⟩) (fun hHeld => ?_); clear hK K; (try simp only [Act.put, List.setIfInBounds_toArray, List.set_cons_zero, List.set_cons_succ]))
          (refine held_call 6 rfl (by kernel_rfl) (fun K hK => ?_); go_simp)
          obtain ⟨b7, hb7⟩ : ∃ b, b = wk3.heap.size := ⟨_, rfl⟩
          obtain ⟨wk4, hwn⟩ : ∃ V, V = wk3.alloc (.cells #[.slice none 0 0, .slice none 0 0, .slice none 0 0, .slice none 0 0, .slice none 0 0, .slice none 0 0] 30) := ⟨_, rfl⟩
          rw [← hwn, ← hb7]
          have hbq : Below wk3.heap.size wk3 wk4 := by rw [hwn]; exact (Below.refl _ _).alloc (Nat.le_refl _) _
          have H7 : Blk wk4 b7 #[.slice none 0 0, .slice none 0 0, .slice none 0 0, .slice none 0 0, .slice none 0 0, .slice none 0 0] := by rw [hwn, hb7]; exact Blk.new _ _ _
          have lb7 : w.heap.size + 2 < b7 := by rw [hb7]; exact HT.c.2.2
          have hne : b8 < b7 := by rw [hb7]; exact H8.2.2
          have HX := HX.below hbq
          have HY := HY.below hbq
          have H8 := H8.below hbq
          have HT := HT.later hbq
          clear hbq hwn hb7
          (refine hK.out _ _ (⟨HT.a.1, HT.b.1⟩) (fun hHeld => ?_); clear hK K; (try simp only [Act.put, List.setIfInBounds_toArray, List.set_cons_zero, List.set_cons_succ]))
          have Hc := H7
          obtain ⟨cs, fs, zs⟩ := Hc
          (refine held_call 8 rfl (by kernel_rfl) (fun K hK => ?_); go_simp)
          clear cs fs zs
          obtain ⟨wn, hwn⟩ : ∃ W, W = puts wk4 b7 0 [.slice xa0 d.more.length xc0, .slice xa1 d.gone.length xc1, .slice xa2 d.grow.length xc2, .slice xa3 d.ungrow.length xc3, .slice xa4 d.shrink.length xc4, .slice xa5 d.unshrink.length xc5] := ⟨_, rfl⟩
          have hch : ((((((wk4.setCell ⟨b7, 0, none⟩ (.slice xa0 d.more.length xc0)).setCell ⟨b7, 1, none⟩ (.slice xa1 d.gone.length xc1)).setCell ⟨b7, 2, none⟩ (.slice xa2 d.grow.length xc2)).setCell ⟨b7, 3, none⟩ (.slice xa3 d.ungrow.length xc3)).setCell ⟨b7, 4, none⟩ (.slice xa4 d.shrink.length xc4)).setCell ⟨b7, 5, none⟩ (.slice xa5 d.unshrink.length xc5)) = wn := hwn.symm
          rw [hch]
          clear hch
          have HBS : BlkS wk4 b7 6 := ⟨_, H7, rfl, by simp [isSl]⟩
          have HT := HT.puts (g := b7) (by omega) [.slice xa0 d.more.length xc0, .slice xa1 d.gone.length xc1, .slice xa2 d.grow.length xc2, .slice xa3 d.ungrow.length xc3, .slice xa4 d.shrink.length xc4, .slice xa5 d.unshrink.length xc5]
          have HX := HX.puts [.slice xa0 d.more.length xc0, .slice xa1 d.gone.length xc1, .slice xa2 d.grow.length xc2, .slice xa3 d.ungrow.length xc3, .slice xa4 d.shrink.length xc4, .slice xa5 d.unshrink.length xc5] HBS (by simp) (by simp [isSl])
          have HY := HY.puts [.slice xa0 d.more.length xc0, .slice xa1 d.gone.length xc1, .slice xa2 d.grow.length xc2, .slice xa3 d.ungrow.length xc3, .slice xa4 d.shrink.length xc4, .slice xa5 d.unshrink.length xc5] HBS (by simp) (by simp [isSl])
          have H7 := H7.six (.slice xa0 d.more.length xc0) (.slice xa1 d.gone.length xc1) (.slice xa2 d.grow.length xc2) (.slice xa3 d.ungrow.length xc3) (.slice xa4 d.shrink.length xc4) (.slice xa5 d.unshrink.length xc5)
          have H8 := H8.puts_far (g := b7) (by omega) [.slice xa0 d.more.length xc0, .slice xa1 d.gone.length xc1, .slice xa2 d.grow.length xc2, .slice xa3 d.ungrow.length xc3, .slice xa4 d.shrink.length xc4, .slice xa5 d.unshrink.length xc5] 0 wk4
          rw [← hwn] at HT HX HY H7 H8
          clear hwn HBS
          (refine hK.out _ _ (⟨HT.a.1, HT.b.1⟩) (fun hHeld => ?_); clear hK K; (try simp only [Act.put, List.setIfInBounds_toArray, List.set_cons_zero, List.set_cons_succ]))
          generalize wn = wn8 at *
          have Hc := H8
          obtain ⟨cs, fs, zs⟩ := Hc
          (refine held_call 9 rfl (by kernel_rfl) (fun K hK => ?_); go_simp)
          clear cs fs zs
          obtain ⟨wn, hwn⟩ : ∃ W, W = puts wn8 b8 0 [.slice ya0 d.more.length yc0, .slice ya1 d.gone.length yc1, .slice ya2 d.grow.length yc2, .slice ya3 d.ungrow.length yc3, .slice ya4 d.shrink.length yc4, .slice ya5 d.unshrink.length yc5] := ⟨_, rfl⟩
          have hch : ((((((wn8.setCell ⟨b8, 0, none⟩ (.slice ya0 d.more.length yc0)).setCell ⟨b8, 1, none⟩ (.slice ya1 d.gone.length yc1)).setCell ⟨b8, 2, none⟩ (.slice ya2 d.grow.length yc2)).setCell ⟨b8, 3, none⟩ (.slice ya3 d.ungrow.length yc3)).setCell ⟨b8, 4, none⟩ (.slice ya4 d.shrink.length yc4)).setCell ⟨b8, 5, none⟩ (.slice ya5 d.unshrink.length yc5)) = wn := hwn.symm
          rw [hch]
          clear hch
          have HBS : BlkS wn8 b8 6 := ⟨_, H8, rfl, by simp [isSl]⟩
          have HT := HT.puts (g := b8) (by omega) [.slice ya0 d.more.length yc0, .slice ya1 d.gone.length yc1, .slice ya2 d.grow.length yc2, .slice ya3 d.ungrow.length yc3, .slice ya4 d.shrink.length yc4, .slice ya5 d.unshrink.length yc5]
          have HX := HX.puts [.slice ya0 d.more.length yc0, .slice ya1 d.gone.length yc1, .slice ya2 d.grow.length yc2, .slice ya3 d.ungrow.length yc3, .slice ya4 d.shrink.length yc4, .slice ya5 d.unshrink.length yc5] HBS (by simp) (by simp [isSl])
          have HY := HY.puts [.slice ya0 d.more.length yc0, .slice ya1 d.gone.length yc1, .slice ya2 d.grow.length yc2, .slice ya3 d.ungrow.length yc3, .slice ya4 d.shrink.length yc4, .slice ya5 d.unshrink.length yc5] HBS (by simp) (by simp [isSl])
          have H8 := H8.six (.slice ya0 d.more.length yc0) (.slice ya1 d.gone.length yc1) (.slice ya2 d.grow.length yc2) (.slice ya3 d.ungrow.length yc3) (.slice ya4 d.shrink.length yc4) (.slice ya5 d.unshrink.length yc5)
          have H7 := H7.puts_far (g := b8) (by omega) [.slice ya0 d.more.length yc0, .slice ya1 d.gone.length yc1, .slice ya2 d.grow.length yc2, .slice ya3 d.ungrow.length yc3, .slice ya4 d.shrink.length yc4, .slice ya5 d.unshrink.length yc5] 0 wn8
          rw [← hwn] at HT HX HY H7 H8
          clear hwn HBS
          (refine hK.out _ _ (⟨HT.a.1, HT.b.1⟩) (fun hHeld => ?_); clear hK K; (try simp only [Act.put, List.setIfInBounds_toArray, List.set_cons_zero, List.set_cons_succ]))
          refine wpAnyH_done (by kernel_rfl) ?_ _
          go_wp2_with fail
          go_meet
          exact ⟨b7, b8, xa0, ya0, xa1, ya1, xa2, ya2, xa3, ya3, xa4, ya4, xa5, ya5, xc0, yc0, xc1, yc1, xc2, yc2, xc3, yc3, xc4, yc4, xc5, yc5, rfl, rfl, Lib.hid ⟨HT, H7, H8, HX, HY⟩⟩
        · go_simp
          obtain ⟨b7, hb7⟩ : ∃ b, b = wk2.heap.size := ⟨_, rfl⟩
          obtain ⟨wk3, hwn⟩ : ∃ V, V = wk2.alloc (.cells #[.slice none 0 0, .slice none 0 0, .slice none 0 0, .slice none 0 0, .slice none 0 0, .slice none 0 0] 30) := ⟨_, rfl⟩
          rw [← hwn, ← hb7]
          have hbq : Below wk2.heap.size wk2 wk3 := by rw [hwn]; exact (Below.refl _ _).alloc (Nat.le_refl _) _
          have H7 : Blk wk3 b7 #[.slice none 0 0, .slice none 0 0, .slice none 0 0, .slice none 0 0, .slice none 0 0, .slice none 0 0] := by rw [hwn, hb7]; exact Blk.new _ _ _
          have lb7 : w.heap.size + 2 < b7 := by rw [hb7]; exact HT.c.2.2
          have hne : b8 < b7 := by rw [hb7]; exact H8.2.2
          have HX := HX.below hbq
          have H8 := H8.below hbq
          have HT := HT.later hbq
          clear hbq hwn hb7
          (refine hK.out _ _ (⟨HT.a.1, HT.b.1⟩) (fun hHeld => ?_); clear hK K; (try simp only [Act.put, List.setIfInBounds_toArray, List.set_cons_zero, List.set_cons_succ]))
          (refine held_call 5 rfl (by kernel_rfl) (fun K hK => ?_); go_simp)
          go_at_call 8; refine (RF.out _ HT.low).mono ?_; rintro e wk4 ⟨z, rfl, ⟨z0, z1, z2, z3, z4, z5, rfl, hz⟩, hbq⟩
          obtain ⟨ya0, yc0, rfl⟩ := hz.a0.form
          obtain ⟨ya1, yc1, rfl⟩ := hz.a1.form
          obtain ⟨ya2, yc2, rfl⟩ := hz.a2.form
          obtain ⟨ya3, yc3, rfl⟩ := hz.a3.form
          obtain ⟨ya4, yc4, rfl⟩ := hz.a4.form
          obtain ⟨ya5, yc5, rfl⟩ := hz.a5.form
          have HX := HX.below hbq
          have H7 := H7.below hbq
          have H8 := H8.below hbq
          have HT := HT.later hbq
          have HY := hz
          clear hz hbq
          (refine hK.out _ _ (⟨HT.a.1, HT.b.1⟩) (fun hHeld => ?_); clear hK K; (try simp only [Act.put, List.setIfInBounds_toArray, List.set_cons_zero, List.set_cons_succ]))
          have Hc := H7
          obtain ⟨cs, fs, zs⟩ := Hc
          (refine held_call 8 rfl (by kernel_rfl) (fun K hK => ?_); go_simp)
          clear cs fs zs
          obtain ⟨wn, hwn⟩ : ∃ W, W = puts wk4 b7 0 [.slice xa0 d.more.length xc0, .slice xa1 d.gone.length xc1, .slice xa2 d.grow.length xc2, .slice xa3 d.ungrow.length xc3, .slice xa4 d.shrink.length xc4, .slice xa5 d.unshrink.length xc5] := ⟨_, rfl⟩
          have hch : ((((((wk4.setCell ⟨b7, 0, none⟩ (.slice xa0 d.more.length xc0)).setCell ⟨b7, 1, none⟩ (.slice xa1 d.gone.length xc1)).setCell ⟨b7, 2, none⟩ (.slice xa2 d.grow.length xc2)).setCell ⟨b7, 3, none⟩ (.slice xa3 d.ungrow.length xc3)).setCell ⟨b7, 4, none⟩ (.slice xa4 d.shrink.length xc4)).setCell ⟨b7, 5, none⟩ (.slice xa5 d.unshrink.length xc5)) = wn := hwn.symm
          rw [hch]
          clear hch
          have HBS : BlkS wk4 b7 6 := ⟨_, H7, rfl, by simp [isSl]⟩
          have HT := HT.puts (g := b7) (by omega) [.slice xa0 d.more.length xc0, .slice xa1 d.gone.length xc1, .slice xa2 d.grow.length xc2, .slice xa3 d.ungrow.length xc3, .slice xa4 d.shrink.length xc4, .slice xa5 d.unshrink.length xc5]
          have HX := HX.puts [.slice xa0 d.more.length xc0, .slice xa1 d.gone.length xc1, .slice xa2 d.grow.length xc2, .slice xa3 d.ungrow.length xc3, .slice xa4 d.shrink.length xc4, .slice xa5 d.unshrink.length xc5] HBS (by simp) (by simp [isSl])
          have HY := HY.puts [.slice xa0 d.more.length xc0, .slice xa1 d.gone.length xc1, .slice xa2 d.grow.length xc2, .slice xa3 d.ungrow.length xc3, .slice xa4 d.shrink.length xc4, .slice xa5 d.unshrink.length xc5] HBS (by simp) (by simp [isSl])
          have H7 := H7.six (.slice xa0 d.more.length xc0) (.slice xa1 d.gone.length xc1) (.slice xa2 d.grow.length xc2) (.slice xa3 d.ungrow.length xc3) (.slice xa4 d.shrink.length xc4) (.slice xa5 d.unshrink.length xc5)
          have H8 := H8.puts_far (g := b7) (by omega) [.slice xa0 d.more.length xc0, .slice xa1 d.gone.length xc1, .slice xa2 d.grow.length xc2, .slice xa3 d.ungrow.length xc3, .slice xa4 d.shrink.length xc4, .slice xa5 d.unshrink.length xc5] 0 wk4
          rw [← hwn] at HT HX HY H7 H8
          clear hwn HBS
          (refine hK.out _ _ (⟨HT.a.1, HT.b.1⟩) (fun hHeld => ?_); clear hK K; (try simp only [Act.put, List.setIfInBounds_toArray, List.set_cons_zero, List.set_cons_succ]))
          generalize wn = wn8 at *
          have Hc := H8
          obtain ⟨cs, fs, zs⟩ := Hc
          (refine held_call 9 rfl (by kernel_rfl) (fun K hK => ?_); go_simp)
          clear cs fs zs
          obtain ⟨wn, hwn⟩ : ∃ W, W = puts wn8 b8 0 [.slice ya0 d.more.length yc0, .slice ya1 d.gone.length yc1, .slice ya2 d.grow.length yc2, .slice ya3 d.ungrow.length yc3, .slice ya4 d.shrink.length yc4, .slice ya5 d.unshrink.length yc5] := ⟨_, rfl⟩
          have hch : ((((((wn8.setCell ⟨b8, 0, none⟩ (.slice ya0 d.more.length yc0)).setCell ⟨b8, 1, none⟩ (.slice ya1 d.gone.length yc1)).setCell ⟨b8, 2, none⟩ (.slice ya2 d.grow.length yc2)).setCell ⟨b8, 3, none⟩ (.slice ya3 d.ungrow.length yc3)).setCell ⟨b8, 4, none⟩ (.slice ya4 d.shrink.length yc4)).setCell ⟨b8, 5, none⟩ (.slice ya5 d.unshrink.length yc5)) = wn := hwn.symm
          rw [hch]
          clear hch
          have HBS : BlkS wn8 b8 6 := ⟨_, H8, rfl, by simp [isSl]⟩
          have HT := HT.puts (g := b8) (by omega) [.slice ya0 d.more.length yc0, .slice ya1 d.gone.length yc1, .slice ya2 d.grow.length yc2, .slice ya3 d.ungrow.length yc3, .slice ya4 d.shrink.length yc4, .slice ya5 d.unshrink.length yc5]
          have HX := HX.puts [.slice ya0 d.more.length yc0, .slice ya1 d.gone.length yc1, .slice ya2 d.grow.length yc2, .slice ya3 d.ungrow.length yc3, .slice ya4 d.shrink.length yc4, .slice ya5 d.unshrink.length yc5] HBS (by simp) (by simp [isSl])
          have HY := HY.puts [.slice ya0 d.more.length yc0, .slice ya1 d.gone.length yc1, .slice ya2 d.grow.length yc2, .slice ya3 d.ungrow.length yc3, .slice ya4 d.shrink.length yc4, .slice ya5 d.unshrink.length yc5] HBS (by simp) (by simp [isSl])
          have H8 := H8.six (.slice ya0 d.more.length yc0) (.slice ya1 d.gone.length yc1) (.slice ya2 d.grow.length yc2) (.slice ya3 d.ungrow.length yc3) (.slice ya4 d.shrink.length yc4) (.slice ya5 d.unshrink.length yc5)
          have H7 := H7.puts_far (g := b8) (by omega) [.slice ya0 d.more.length yc0, .slice ya1 d.gone.length yc1, .slice ya2 d.grow.length yc2, .slice ya3 d.ungrow.length yc3, .slice ya4 d.shrink.length yc4, .slice ya5 d.unshrink.length yc5] 0 wn8
          rw [← hwn] at HT HX HY H7 H8
          clear hwn HBS
          (refine hK.out _ _ (⟨HT.a.1, HT.b.1⟩) (fun hHeld => ?_); clear hK K; (try simp only [Act.put, List.setIfInBounds_toArray, List.set_cons_zero, List.set_cons_succ]))
          refine wpAnyH_done (by kernel_rfl) ?_ _
          go_wp2_with fail
          go_meet
          exact ⟨b7, b8, xa0, ya0, xa1, ya1, xa2, ya2, xa3, ya3, xa4, ya4, xa5, ya5, xc0, yc0, xc1, yc1, xc2, yc2, xc3, yc3, xc4, yc4, xc5, yc5, rfl, rfl, Lib.hid ⟨HT, H7, H8, HX, HY⟩⟩
    · go_simp
      obtain ⟨b7, hb7⟩ : ∃ b, b = wk.heap.size := ⟨_, rfl⟩
      obtain ⟨wk1, hwn⟩ : ∃ V, V = wk.alloc (.cells #[.slice none 0 0, .slice none 0 0, .slice none 0 0, .slice none 0 0, .slice none 0 0, .slice none 0 0] 30) := ⟨_, rfl⟩
      rw [← hwn, ← hb7]
      have hbq : Below wk.heap.size wk wk1 := by rw [hwn]; exact (Below.refl _ _).alloc (Nat.le_refl _) _
      have H7 : Blk wk1 b7 #[.slice none 0 0, .slice none 0 0, .slice none 0 0, .slice none 0 0, .slice none 0 0, .slice none 0 0] := by rw [hwn, hb7]; exact Blk.new _ _ _
      have lb7 : w.heap.size + 2 < b7 := by rw [hb7]; exact HT.c.2.2
      have HT := HT.later hbq
      clear hbq hwn hb7
      (refine hK.out _ _ (⟨HT.a.1, HT.b.1⟩) (fun hHeld => ?_); clear hK K; (try simp only [Act.put, List.setIfInBounds_toArray, List.set_cons_zero, List.set_cons_succ]))
      refine wpAnyH_ready (rs := [2, 7]) (by kernel_rfl) (by simp) (AllReadyH.cons rfl (fun K hK => ?_) (AllReadyH.cons rfl (fun K hK => ?_) AllReadyH.nil))
      · go_simp
        go_at_call 7; refine (OF.out _ HT.low).mono ?_; rintro e wk2 ⟨z, rfl, ⟨z0, z1, z2, z3, z4, z5, rfl, hz⟩, hbq⟩
        obtain ⟨xa0, xc0, rfl⟩ := hz.a0.form
        obtain ⟨xa1, xc1, rfl⟩ := hz.a1.form
        obtain ⟨xa2, xc2, rfl⟩ := hz.a2.form
        obtain ⟨xa3, xc3, rfl⟩ := hz.a3.form
        obtain ⟨xa4, xc4, rfl⟩ := hz.a4.form
        obtain ⟨xa5, xc5, rfl⟩ := hz.a5.form
        have H7 := H7.below hbq
        have HT := HT.later hbq
        have HX := hz
        clear hz hbq
        (refine hK.out _ _ (⟨HT.a.1, HT.b.1⟩) (fun hHeld => ?_); clear hK K; (try simp only [Act.put, List.setIfInBounds_toArray, List.set_cons_zero, List.set_cons_succ]))
        refine wpAnyH_ready (rs := [5, 7]) (by kernel_rfl) (by simp) (AllReadyH.cons rfl (fun K hK => ?_) (AllReadyH.cons rfl (fun K hK => ?_) AllReadyH.nil))
        · go_simp
          go_at_call 8; refine (RF.out _ HT.low).mono ?_; rintro e wk3 ⟨z, rfl, ⟨z0, z1, z2, z3, z4, z5, rfl, hz⟩, hbq⟩
          obtain ⟨ya0, yc0, rfl⟩ := hz.a0.form
          obtain ⟨ya1, yc1, rfl⟩ := hz.a1.form
          obtain ⟨ya2, yc2, rfl⟩ := hz.a2.form
          obtain ⟨ya3, yc3, rfl⟩ := hz.a3.form
          obtain ⟨ya4, yc4, rfl⟩ := hz.a4.form
          obtain ⟨ya5, yc5, rfl⟩ := hz.a5.form
          have HX := HX.below hbq
          have H7 := H7.below hbq
          have HT := HT.later hbq
          have HY := hz
          clear hz hbq
          (refine hK.out _ _ (⟨HT.a.1, HT.b.1⟩) (fun hHeld => ?_); clear hK K; (try simp only [Act.put, List.setIfInBounds_toArray, List.set_cons_zero, List.set_cons_succ]))
          (refine held_call 7 rfl (by kernel_rfl) (fun K hK => ?_); go_simp)
          obtain ⟨b8, hb8⟩ : ∃ b, b = wk3.heap.size := ⟨_, rfl⟩
          obtain ⟨wk4, hwn⟩ : ∃ V, V = wk3.alloc (.cells #[.slice none 0 0, .slice none 0 0, .slice none 0 0, .slice none 0 0, .slice none 0 0, .slice none 0 0] 32) := ⟨_, rfl⟩
          rw [← hwn, ← hb8]
          have hbq : Below wk3.heap.size wk3 wk4 := by rw [hwn]; exact (Below.refl _ _).alloc (Nat.le_refl _) _
          have H8 : Blk wk4 b8 #[.slice none 0 0, .slice none 0 0, .slice none 0 0, .slice none 0 0, .slice none 0 0, .slice none 0 0] := by rw [hwn, hb8]; exact Blk.new _ _ _
          have lb8 : w.heap.size + 2 < b8 := by rw [hb8]; exact HT.c.2.2
          have hne : b7 < b8 := by rw [hb8]; exact H7.2.2
          have HX := HX.below hbq
          have HY := HY.below hbq
          have H7 := H7.below hbq
          have HT := HT.later hbq
          clear hbq hwn hb8
          (refine hK.out _ _ (⟨HT.a.1, HT.b.1⟩) (fun hHeld => ?_); clear hK K; (try simp only [Act.put, List.setIfInBounds_toArray, List.set_cons_zero, List.set_cons_succ]))
          have Hc := H7
          obtain ⟨cs, fs, zs⟩ := Hc
          (refine held_call 8 rfl (by kernel_rfl) (fun K hK => ?_); go_simp)
          clear cs fs zs
          obtain ⟨wn, hwn⟩ : ∃ W, W = puts wk4 b7 0 [.slice xa0 d.more.length xc0, .slice xa1 d.gone.length xc1, .slice xa2 d.grow.length xc2, .slice xa3 d.ungrow.length xc3, .slice xa4 d.shrink.length xc4, .slice xa5 d.unshrink.length xc5] := ⟨_, rfl⟩
          have hch : ((((((wk4.setCell ⟨b7, 0, none⟩ (.slice xa0 d.more.length xc0)).setCell ⟨b7, 1, none⟩ (.slice xa1 d.gone.length xc1)).setCell ⟨b7, 2, none⟩ (.slice xa2 d.grow.length xc2)).setCell ⟨b7, 3, none⟩ (.slice xa3 d.ungrow.length xc3)).setCell ⟨b7, 4, none⟩ (.slice xa4 d.shrink.length xc4)).setCell ⟨b7, 5, none⟩ (.slice xa5 d.unshrink.length xc5)) = wn := hwn.symm
          rw [hch]
          clear hch
          have HBS : BlkS wk4 b7 6 := ⟨_, H7, rfl, by simp [isSl]⟩
          have HT := HT.puts (g := b7) (by omega) [.slice xa0 d.more.length xc0, .slice xa1 d.gone.length xc1, .slice xa2 d.grow.length xc2, .slice xa3 d.ungrow.length xc3, .slice xa4 d.shrink.length xc4, .slice xa5 d.unshrink.length xc5]
          have HX := HX.puts [.slice xa0 d.more.length xc0, .slice xa1 d.gone.length xc1, .slice xa2 d.grow.length xc2, .slice xa3 d.ungrow.length xc3, .slice xa4 d.shrink.length xc4, .slice xa5 d.unshrink.length xc5] HBS (by simp) (by simp [isSl])
          have HY := HY.puts [.slice xa0 d.more.length xc0, .slice xa1 d.gone.length xc1, .slice xa2 d.grow.length xc2, .slice xa3 d.ungrow.length xc3, .slice xa4 d.shrink.length xc4, .slice xa5 d.unshrink.length xc5] HBS (by simp) (by simp [isSl])
          have H7 := H7.six (.slice xa0 d.more.length xc0) (.slice xa1 d.gone.length xc1) (.slice xa2 d.grow.length xc2) (.slice xa3 d.ungrow.length xc3) (.slice xa4 d.shrink.length xc4) (.slice xa5 d.unshrink.length xc5)
          have H8 := H8.puts_far (g := b7) (by omega) [.slice xa0 d.more.length xc0, .slice xa1 d.gone.length xc1, .slice xa2 d.grow.length xc2, .slice xa3 d.ungrow.length xc3, .slice xa4 d.shrink.length xc4, .slice xa5 d.unshrink.length xc5] 0 wk4
          rw [← hwn] at HT HX HY H7 H8
          clear hwn HBS
          (refine hK.out _ _ (⟨HT.a.1, HT.b.1⟩) (fun hHeld => ?_); clear hK K; (try simp only [Act.put, List.setIfInBounds_toArray, List.set_cons_zero, List.set_cons_succ]))
          generalize wn = wn8 at *
          have Hc := H8
          obtain ⟨cs, fs, zs⟩ := Hc
          (refine held_call 9 rfl (by kernel_rfl) (fun K hK => ?_); go_simp)
          clear cs fs zs
          obtain ⟨wn, hwn⟩ : ∃ W, W = puts wn8 b8 0 [.slice ya0 d.more.length yc0, .slice ya1 d.gone.length yc1, .slice ya2 d.grow.length yc2, .slice ya3 d.ungrow.length yc3, .slice ya4 d.shrink.length yc4, .slice ya5 d.unshrink.length yc5] := ⟨_, rfl⟩
          have hch : ((((((wn8.setCell ⟨b8, 0, none⟩ (.slice ya0 d.more.length yc0)).setCell ⟨b8, 1, none⟩ (.slice ya1 d.gone.length yc1)).setCell ⟨b8, 2, none⟩ (.slice ya2 d.grow.length yc2)).setCell ⟨b8, 3, none⟩ (.slice ya3 d.ungrow.length yc3)).setCell ⟨b8, 4, none⟩ (.slice ya4 d.shrink.length yc4)).setCell ⟨b8, 5, none⟩ (.slice ya5 d.unshrink.length yc5)) = wn := hwn.symm
          rw [hch]
          clear hch
          have HBS : BlkS wn8 b8 6 := ⟨_, H8, rfl, by simp [isSl]⟩
          have HT := HT.puts (g := b8) (by omega) [.slice ya0 d.more.length yc0, .slice ya1 d.gone.length yc1, .slice ya2 d.grow.length yc2, .slice ya3 d.ungrow.length yc3, .slice ya4 d.shrink.length yc4, .slice ya5 d.unshrink.length yc5]
          have HX := HX.puts [.slice ya0 d.more.length yc0, .slice ya1 d.gone.length yc1, .slice ya2 d.grow.length yc2, .slice ya3 d.ungrow.length yc3, .slice ya4 d.shrink.length yc4, .slice ya5 d.unshrink.length yc5] HBS (by simp) (by simp [isSl])
          have HY := HY.puts [.slice ya0 d.more.length yc0, .slice ya1 d.gone.length yc1, .slice ya2 d.grow.length yc2, .slice ya3 d.ungrow.length yc3, .slice ya4 d.shrink.length yc4, .slice ya5 d.unshrink.length yc5] HBS (by simp) (by simp [isSl])
          have H8 := H8.six (.slice ya0 d.more.length yc0) (.slice ya1 d.gone.length yc1) (.slice ya2 d.grow.length yc2) (.slice ya3 d.ungrow.length yc3) (.slice ya4 d.shrink.length yc4) (.slice ya5 d.unshrink.length yc5)
          have H7 := H7.puts_far (g := b8) (by omega) [.slice ya0 d.more.length yc0, .slice ya1 d.gone.length yc1, .slice ya2 d.grow.length yc2, .slice ya3 d.ungrow.length yc3, .slice ya4 d.shrink.length yc4, .slice ya5 d.unshrink.length yc5] 0 wn8
          rw [← hwn] at HT HX HY H7 H8
          clear hwn HBS
          (refine hK.out _ _ (⟨HT.a.1, HT.b.1⟩) (fun hHeld => ?_); clear hK K; (try simp only [Act.put, List.setIfInBounds_toArray, List.set_cons_zero, List.set_cons_succ]))
          refine wpAnyH_done (by kernel_rfl) ?_ _
          go_wp2_with fail
          go_meet
          exact ⟨b7, b8, xa0, ya0, xa1, ya1, xa2, ya2, xa3, ya3, xa4, ya4, xa5, ya5, xc0, yc0, xc1, yc1, xc2, yc2, xc3, yc3, xc4, yc4, xc5, yc5, rfl, rfl, Lib.hid ⟨HT, H7, H8, HX, HY⟩⟩
        · go_simp
          obtain ⟨b8, hb8⟩ : ∃ b, b = wk2.heap.size := ⟨_, rfl⟩
          obtain ⟨wk3, hwn⟩ : ∃ V, V = wk2.alloc (.cells #[.slice none 0 0, .slice none 0 0, .slice none 0 0, .slice none 0 0, .slice none 0 0, .slice none 0 0] 32) := ⟨_, rfl⟩
          rw [← hwn, ← hb8]
          have hbq : Below wk2.heap.size wk2 wk3 := by rw [hwn]; exact (Below.refl _ _).alloc (Nat.le_refl _) _
          have H8 : Blk wk3 b8 #[.slice none 0 0, .slice none 0 0, .slice none 0 0, .slice none 0 0, .slice none 0 0, .slice none 0 0] := by rw [hwn, hb8]; exact Blk.new _ _ _
          have lb8 : w.heap.size + 2 < b8 := by rw [hb8]; exact HT.c.2.2
          have hne : b7 < b8 := by rw [hb8]; exact H7.2.2
          have HX := HX.below hbq
          have H7 := H7.below hbq
          have HT := HT.later hbq
          clear hbq hwn hb8
          (refine hK.out _ _ (⟨HT.a.1, HT.b.1⟩) (fun hHeld => ?_); clear hK K; (try simp only [Act.put, List.setIfInBounds_toArray, List.set_cons_zero, List.set_cons_succ]))
          (refine held_call 5 rfl (by kernel_rfl) (fun K hK => ?_); go_simp)
          go_at_call 8; refine (RF.out _ HT.low).mono ?_; rintro e wk4 ⟨z, rfl, ⟨z0, z1, z2, z3, z4, z5, rfl, hz⟩, hbq⟩
          obtain ⟨ya0, yc0, rfl⟩ := hz.a0.form
          obtain ⟨ya1, yc1, rfl⟩ := hz.a1.form
          obtain ⟨ya2, yc2, rfl⟩ := hz.a2.form
          obtain ⟨ya3, yc3, rfl⟩ := hz.a3.form
          obtain ⟨ya4, yc4, rfl⟩ := hz.a4.form
          obtain ⟨ya5, yc5, rfl⟩ := hz.a5.form
          have HX := HX.below hbq
          have H7 := H7.below hbq
          have H8 := H8.below hbq
          have HT := HT.later hbq
          have HY := hz
          clear hz hbq
          (refine hK.out _ _ (⟨HT.a.1, HT.b.1⟩) (fun hHeld => ?_); clear hK K; (try simp only [Act.put, List.setIfInBounds_toArray, List.set_cons_zero, List.set_cons_succ]))
          have Hc := H7
          obtain ⟨cs, fs, zs⟩ := Hc
          (refine held_call 8 rfl (by kernel_rfl) (fun K hK => ?_); go_simp)
          clear cs fs zs
          obtain ⟨wn, hwn⟩ : ∃ W, W = puts wk4 b7 0 [.slice xa0 d.more.length xc0, .slice xa1 d.gone.length xc1, .slice xa2 d.grow.length xc2, .slice xa3 d.ungrow.length xc3, .slice xa4 d.shrink.length xc4, .slice xa5 d.unshrink.length xc5] := ⟨_, rfl⟩
          have hch : ((((((wk4.setCell ⟨b7, 0, none⟩ (.slice xa0 d.more.length xc0)).setCell ⟨b7, 1, none⟩ (.slice xa1 d.gone.length xc1)).setCell ⟨b7, 2, none⟩ (.slice xa2 d.grow.length xc2)).setCell ⟨b7, 3, none⟩ (.slice xa3 d.ungrow.length xc3)).setCell ⟨b7, 4, none⟩ (.slice xa4 d.shrink.length xc4)).setCell ⟨b7, 5, none⟩ (.slice xa5 d.unshrink.length xc5)) = wn := hwn.symm
          rw [hch]
          clear hch
          have HBS : BlkS wk4 b7 6 := ⟨_, H7, rfl, by simp [isSl]⟩
          have HT := HT.puts (g := b7) (by omega) [.slice xa0 d.more.length xc0, .slice xa1 d.gone.length xc1, .slice xa2 d.grow.length xc2, .slice xa3 d.ungrow.length xc3, .slice xa4 d.shrink.length xc4, .slice xa5 d.unshrink.length xc5]
          have HX := HX.puts [.slice xa0 d.more.length xc0, .slice xa1 d.gone.length xc1, .slice xa2 d.grow.length xc2, .slice xa3 d.ungrow.length xc3, .slice xa4 d.shrink.length xc4, .slice xa5 d.unshrink.length xc5] HBS (by simp) (by simp [isSl])
          have HY := HY.puts [.slice xa0 d.more.length xc0, .slice xa1 d.gone.length xc1, .slice xa2 d.grow.length xc2, .slice xa3 d.ungrow.length xc3, .slice xa4 d.shrink.length xc4, .slice xa5 d.unshrink.length xc5] HBS (by simp) (by simp [isSl])
          have H7 := H7.six (.slice xa0 d.more.length xc0) (.slice xa1 d.gone.length xc1) (.slice xa2 d.grow.length xc2) (.slice xa3 d.ungrow.length xc3) (.slice xa4 d.shrink.length xc4) (.slice xa5 d.unshrink.length xc5)
          have H8 := H8.puts_far (g := b7) (by omega) [.slice xa0 d.more.length xc0, .slice xa1 d.gone.length xc1, .slice xa2 d.grow.length xc2, .slice xa3 d.ungrow.length xc3, .slice xa4 d.shrink.length xc4, .slice xa5 d.unshrink.length xc5] 0 wk4
          rw [← hwn] at HT HX HY H7 H8
          clear hwn HBS
          (refine hK.out _ _ (⟨HT.a.1, HT.b.1⟩) (fun hHeld => ?_); clear hK K; (try simp only [Act.put, List.setIfInBounds_toArray, List.set_cons_zero, List.set_cons_succ]))
          generalize wn = wn8 at *
          have Hc := H8
          obtain ⟨cs, fs, zs⟩ := Hc
          (refine held_call 9 rfl (by kernel_rfl) (fun K hK => ?_); go_simp)
          clear cs fs zs
          obtain ⟨wn, hwn⟩ : ∃ W, W = puts wn8 b8 0 [.slice ya0 d.more.length yc0, .slice ya1 d.gone.length yc1, .slice ya2 d.grow.length yc2, .slice ya3 d.ungrow.length yc3, .slice ya4 d.shrink.length yc4, .slice ya5 d.unshrink.length yc5] := ⟨_, rfl⟩
          have hch : ((((((wn8.setCell ⟨b8, 0, none⟩ (.slice ya0 d.more.length yc0)).setCell ⟨b8, 1, none⟩ (.slice ya1 d.gone.length yc1)).setCell ⟨b8, 2, none⟩ (.slice ya2 d.grow.length yc2)).setCell ⟨b8, 3, none⟩ (.slice ya3 d.ungrow.length yc3)).setCell ⟨b8, 4, none⟩ (.slice ya4 d.shrink.length yc4)).setCell ⟨b8, 5, none⟩ (.slice ya5 d.unshrink.length yc5)) = wn := hwn.symm
          rw [hch]
          clear hch
          have HBS : BlkS wn8 b8 6 := ⟨_, H8, rfl, by simp [isSl]⟩
          have HT := HT.puts (g := b8) (by omega) [.slice ya0 d.more.length yc0, .slice ya1 d.gone.length yc1, .slice ya2 d.grow.length yc2, .slice ya3 d.ungrow.length yc3, .slice ya4 d.shrink.length yc4, .slice ya5 d.unshrink.length yc5]
          have HX := HX.puts [.slice ya0 d.more.length yc0, .slice ya1 d.gone.length yc1, .slice ya2 d.grow.length yc2, .slice ya3 d.ungrow.length yc3, .slice ya4 d.shrink.length yc4, .slice ya5 d.unshrink.length yc5] HBS (by simp) (by simp [isSl])
          have HY := HY.puts [.slice ya0 d.more.length yc0, .slice ya1 d.gone.length yc1, .slice ya2 d.grow.length yc2, .slice ya3 d.ungrow.length yc3, .slice ya4 d.shrink.length yc4, .slice ya5 d.unshrink.length yc5] HBS (by simp) (by simp [isSl])
          have H8 := H8.six (.slice ya0 d.more.length yc0) (.slice ya1 d.gone.length yc1) (.slice ya2 d.grow.length yc2) (.slice ya3 d.ungrow.length yc3) (.slice ya4 d.shrink.length yc4) (.slice ya5 d.unshrink.length yc5)
          have H7 := H7.puts_far (g := b8) (by omega) [.slice ya0 d.more.length yc0, .slice ya1 d.gone.length yc1, .slice ya2 d.grow.length yc2, .slice ya3 d.ungrow.length yc3, .slice ya4 d.shrink.length yc4, .slice ya5 d.unshrink.length yc5] 0 wn8
          rw [← hwn] at HT HX HY H7 H8
          clear hwn HBS
          (refine hK.out _ _ (⟨HT.a.1, HT.b.1⟩) (fun hHeld => ?_); clear hK K; (try simp only [Act.put, List.setIfInBounds_toArray, List.set_cons_zero, List.set_cons_succ]))
          refine wpAnyH_done (by kernel_rfl) ?_ _
          go_wp2_with fail
          go_meet
          exact ⟨b7, b8, xa0, ya0, xa1, ya1, xa2, ya2, xa3, ya3, xa4, ya4, xa5, ya5, xc0, yc0, xc1, yc1, xc2, yc2, xc3, yc3, xc4, yc4, xc5, yc5, rfl, rfl, Lib.hid ⟨HT, H7, H8, HX, HY⟩⟩
      · go_simp
        obtain ⟨b8, hb8⟩ : ∃ b, b = wk1.heap.size := ⟨_, rfl⟩
        obtain ⟨wk2, hwn⟩ : ∃ V, V = wk1.alloc (.cells #[.slice none 0 0, .slice none 0 0, .slice none 0 0, .slice none 0 0, .slice none 0 0, .slice none 0 0] 32) := ⟨_, rfl⟩
        rw [← hwn, ← hb8]
        have hbq : Below wk1.heap.size wk1 wk2 := by rw [hwn]; exact (Below.refl _ _).alloc (Nat.le_refl _) _
        have H8 : Blk wk2 b8 #[.slice none 0 0, .slice none 0 0, .slice none 0 0, .slice none 0 0, .slice none 0 0, .slice none 0 0] := by rw [hwn, hb8]; exact Blk.new _ _ _
        have lb8 : w.heap.size + 2 < b8 := by rw [hb8]; exact HT.c.2.2
        have hne : b7 < b8 := by rw [hb8]; exact H7.2.2
        have H7 := H7.below hbq
        have HT := HT.later hbq
        clear hbq hwn hb8
        (refine hK.out _ _ (⟨HT.a.1, HT.b.1⟩) (fun hHeld => ?_); clear hK K; (try simp only [Act.put, List.setIfInBounds_toArray, List.set_cons_zero, List.set_cons_succ]))
        (refine held_call 2 rfl (by kernel_rfl) (fun K hK => ?_); go_simp)
        go_at_call 7; refine (OF.out _ HT.low).mono ?_; rintro e wk3 ⟨z, rfl, ⟨z0, z1, z2, z3, z4, z5, rfl, hz⟩, hbq⟩
        obtain ⟨xa0, xc0, rfl⟩ := hz.a0.form
        obtain ⟨xa1, xc1, rfl⟩ := hz.a1.form
        obtain ⟨xa2, xc2, rfl⟩ := hz.a2.form
        obtain ⟨xa3, xc3, rfl⟩ := hz.a3.form
        obtain ⟨xa4, xc4, rfl⟩ := hz.a4.form
        obtain ⟨xa5, xc5, rfl⟩ := hz.a5.form
        have H7 := H7.below hbq
        have H8 := H8.below hbq
        have HT := HT.later hbq
        have HX := hz
        clear hz hbq
        (refine hK.out _ _ (⟨HT.a.1, HT.b.1⟩) (fun hHeld => ?_); clear hK K; (try simp only [Act.put, List.setIfInBounds_toArray, List.set_cons_zero, List.set_cons_succ]))
        (refine held_call 5 rfl (by kernel_rfl) (fun K hK => ?_); go_simp)
        go_at_call 8; refine (RF.out _ HT.low).mono ?_; rintro e wk4 ⟨z, rfl, ⟨z0, z1, z2, z3, z4, z5, rfl, hz⟩, hbq⟩
        obtain ⟨ya0, yc0, rfl⟩ := hz.a0.form
        obtain ⟨ya1, yc1, rfl⟩ := hz.a1.form
        obtain ⟨ya2, yc2, rfl⟩ := hz.a2.form
        obtain ⟨ya3, yc3, rfl⟩ := hz.a3.form
        obtain ⟨ya4, yc4, rfl⟩ := hz.a4.form
        obtain ⟨ya5, yc5, rfl⟩ := hz.a5.form
        have HX := HX.below hbq
        have H7 := H7.below hbq
        have H8 := H8.below hbq
        have HT := HT.later hbq
        have HY := hz
        clear hz hbq
        (refine hK.out _ _ (⟨HT.a.1, HT.b.1⟩) (fun hHeld => ?_); clear hK K; (try simp only [Act.put, List.setIfInBounds_toArray, List.set_cons_zero, List.set_cons_succ]))
        have Hc := H7
        obtain ⟨cs, fs, zs⟩ := Hc
        (refine held_call 8 rfl (by kernel_rfl) (fun K hK => ?_); go_simp)
        clear cs fs zs
        obtain ⟨wn, hwn⟩ : ∃ W, W = puts wk4 b7 0 [.slice xa0 d.more.length xc0, .slice xa1 d.gone.length xc1, .slice xa2 d.grow.length xc2, .slice xa3 d.ungrow.length xc3, .slice xa4 d.shrink.length xc4, .slice xa5 d.unshrink.length xc5] := ⟨_, rfl⟩
        have hch : ((((((wk4.setCell ⟨b7, 0, none⟩ (.slice xa0 d.more.length xc0)).setCell ⟨b7, 1, none⟩ (.slice xa1 d.gone.length xc1)).setCell ⟨b7, 2, none⟩ (.slice xa2 d.grow.length xc2)).setCell ⟨b7, 3, none⟩ (.slice xa3 d.ungrow.length xc3)).setCell ⟨b7, 4, none⟩ (.slice xa4 d.shrink.length xc4)).setCell ⟨b7, 5, none⟩ (.slice xa5 d.unshrink.length xc5)) = wn := hwn.symm
        rw [hch]
        clear hch
        have HBS : BlkS wk4 b7 6 := ⟨_, H7, rfl, by simp [isSl]⟩
        have HT := HT.puts (g := b7) (by omega) [.slice xa0 d.more.length xc0, .slice xa1 d.gone.length xc1, .slice xa2 d.grow.length xc2, .slice xa3 d.ungrow.length xc3, .slice xa4 d.shrink.length xc4, .slice xa5 d.unshrink.length xc5]
        have HX := HX.puts [.slice xa0 d.more.length xc0, .slice xa1 d.gone.length xc1, .slice xa2 d.grow.length xc2, .slice xa3 d.ungrow.length xc3, .slice xa4 d.shrink.length xc4, .slice xa5 d.unshrink.length xc5] HBS (by simp) (by simp [isSl])
        have HY := HY.puts [.slice xa0 d.more.length xc0, .slice xa1 d.gone.length xc1, .slice xa2 d.grow.length xc2, .slice xa3 d.ungrow.length xc3, .slice xa4 d.shrink.length xc4, .slice xa5 d.unshrink.length xc5] HBS (by simp) (by simp [isSl])
        have H7 := H7.six (.slice xa0 d.more.length xc0) (.slice xa1 d.gone.length xc1) (.slice xa2 d.grow.length xc2) (.slice xa3 d.ungrow.length xc3) (.slice xa4 d.shrink.length xc4) (.slice xa5 d.unshrink.length xc5)
        have H8 := H8.puts_far (g := b7) (by omega) [.slice xa0 d.more.length xc0, .slice xa1 d.gone.length xc1, .slice xa2 d.grow.length xc2, .slice xa3 d.ungrow.length xc3, .slice xa4 d.shrink.length xc4, .slice xa5 d.unshrink.length xc5] 0 wk4
        rw [← hwn] at HT HX HY H7 H8
        clear hwn HBS
        (refine hK.out _ _ (⟨HT.a.1, HT.b.1⟩) (fun hHeld => ?_); clear hK K; (try simp only [Act.put, List.setIfInBounds_toArray, List.set_cons_zero, List.set_cons_succ]))
        generalize wn = wn8 at *
        have Hc := H8
        obtain ⟨cs, fs, zs⟩ := Hc
        (refine held_call 9 rfl (by kernel_rfl) (fun K hK => ?_); go_simp)
        clear cs fs zs
        obtain ⟨wn, hwn⟩ : ∃ W, W = puts wn8 b8 0 [.slice ya0 d.more.length yc0, .slice ya1 d.gone.length yc1, .slice ya2 d.grow.length yc2, .slice ya3 d.ungrow.length yc3, .slice ya4 d.shrink.length yc4, .slice ya5 d.unshrink.length yc5] := ⟨_, rfl⟩
        have hch : ((((((wn8.setCell ⟨b8, 0, none⟩ (.slice ya0 d.more.length yc0)).setCell ⟨b8, 1, none⟩ (.slice ya1 d.gone.length yc1)).setCell ⟨b8, 2, none⟩ (.slice ya2 d.grow.length yc2)).setCell ⟨b8, 3, none⟩ (.slice ya3 d.ungrow.length yc3)).setCell ⟨b8, 4, none⟩ (.slice ya4 d.shrink.length yc4)).setCell ⟨b8, 5, none⟩ (.slice ya5 d.unshrink.length yc5)) = wn := hwn.symm
        rw [hch]
        clear hch
        have HBS : BlkS wn8 b8 6 := ⟨_, H8, rfl, by simp [isSl]⟩
        have HT := HT.puts (g := b8) (by omega) [.slice ya0 d.more.length yc0, .slice ya1 d.gone.length yc1, .slice ya2 d.grow.length yc2, .slice ya3 d.ungrow.length yc3, .slice ya4 d.shrink.length yc4, .slice ya5 d.unshrink.length yc5]
        have HX := HX.puts [.slice ya0 d.more.length yc0, .slice ya1 d.gone.length yc1, .slice ya2 d.grow.length yc2, .slice ya3 d.ungrow.length yc3, .slice ya4 d.shrink.length yc4, .slice ya5 d.unshrink.length yc5] HBS (by simp) (by simp [isSl])
        have HY := HY.puts [.slice ya0 d.more.length yc0, .slice ya1 d.gone.length yc1, .slice ya2 d.grow.length yc2, .slice ya3 d.ungrow.length yc3, .slice ya4 d.shrink.length yc4, .slice ya5 d.unshrink.length yc5] HBS (by simp) (by simp [isSl])
        have H8 := H8.six (.slice ya0 d.more.length yc0) (.slice ya1 d.gone.length yc1) (.slice ya2 d.grow.length yc2) (.slice ya3 d.ungrow.length yc3) (.slice ya4 d.shrink.length yc4) (.slice ya5 d.unshrink.length yc5)
        have H7 := H7.puts_far (g := b8) (by omega) [.slice ya0 d.more.length yc0, .slice ya1 d.gone.length yc1, .slice ya2 d.grow.length yc2, .slice ya3 d.ungrow.length yc3, .slice ya4 d.shrink.length yc4, .slice ya5 d.unshrink.length yc5] 0 wn8
        rw [← hwn] at HT HX HY H7 H8
        clear hwn HBS
        (refine hK.out _ _ (⟨HT.a.1, HT.b.1⟩) (fun hHeld => ?_); clear hK K; (try simp only [Act.put, List.setIfInBounds_toArray, List.set_cons_zero, List.set_cons_succ]))
        refine wpAnyH_done (by kernel_rfl) ?_ _
        go_wp2_with fail
        go_meet
        exact ⟨b7, b8, xa0, ya0, xa1, ya1, xa2, ya2, xa3, ya3, xa4, ya4, xa5, ya5, xc0, yc0, xc1, yc1, xc2, yc2, xc3, yc3, xc4, yc4, xc5, yc5, rfl, rfl, Lib.hid ⟨HT, H7, H8, HX, HY⟩⟩
    · go_simp
      obtain ⟨b8, hb8⟩ : ∃ b, b = wk.heap.size := ⟨_, rfl⟩
      obtain ⟨wk1, hwn⟩ : ∃ V, V = wk.alloc (.cells #[.slice none 0 0, .slice none 0 0, .slice none 0 0, .slice none 0 0, .slice none 0 0, .slice none 0 0] 32) := ⟨_, rfl⟩
      rw [← hwn, ← hb8]
      have hbq : Below wk.heap.size wk wk1 := by rw [hwn]; exact (Below.refl _ _).alloc (Nat.le_refl _) _
      have H8 : Blk wk1 b8 #[.slice none 0 0, .slice none 0 0, .slice none 0 0, .slice none 0 0, .slice none 0 0, .slice none 0 0] := by rw [hwn, hb8]; exact Blk.new _ _ _
      have lb8 : w.heap.size + 2 < b8 := by rw [hb8]; exact HT.c.2.2
      have HT := HT.later hbq
      clear hbq hwn hb8
      (refine hK.out _ _ (⟨HT.a.1, HT.b.1⟩) (fun hHeld => ?_); clear hK K; (try simp only [Act.put, List.setIfInBounds_toArray, List.set_cons_zero, List.set_cons_succ]))
      refine wpAnyH_ready (rs := [2, 6]) (by kernel_rfl) (by simp) (AllReadyH.cons rfl (fun K hK => ?_) (AllReadyH.cons rfl (fun K hK => ?_) AllReadyH.nil))
      · go_simp
        go_at_call 7; refine (OF.out _ HT.low).mono ?_; rintro e wk2 ⟨z, rfl, ⟨z0, z1, z2, z3, z4, z5, rfl, hz⟩, hbq⟩
        obtain ⟨xa0, xc0, rfl⟩ := hz.a0.form
        obtain ⟨xa1, xc1, rfl⟩ := hz.a1.form
        obtain ⟨xa2, xc2, rfl⟩ := hz.a2.form
        obtain ⟨xa3, xc3, rfl⟩ := hz.a3.form
        obtain ⟨xa4, xc4, rfl⟩ := hz.a4.form
        obtain ⟨xa5, xc5, rfl⟩ := hz.a5.form
        have H8 := H8.below hbq
        have HT := HT.later hbq
        have HX := hz
        clear hz hbq
        (refine hK.out _ _ (⟨HT.a.1, HT.b.1⟩) (fun hHeld => ?_); clear hK K; (try simp only [Act.put, List.setIfInBounds_toArray, List.set_cons_zero, List.set_cons_succ]))
        refine wpAnyH_ready (rs := [5, 6]) (by kernel_rfl) (by simp) (AllReadyH.cons rfl (fun K hK => ?_) (AllReadyH.cons rfl (fun K hK => ?_) AllReadyH.nil))
        · go_simp
          go_at_call 8; refine (RF.out _ HT.low).mono ?_; rintro e wk3 ⟨z, rfl, ⟨z0, z1, z2, z3, z4, z5, rfl, hz⟩, hbq⟩
          obtain ⟨ya0, yc0, rfl⟩ := hz.a0.form
          obtain ⟨ya1, yc1, rfl⟩ := hz.a1.form
          obtain ⟨ya2, yc2, rfl⟩ := hz.a2.form
          obtain ⟨ya3, yc3, rfl⟩ := hz.a3.form
          obtain ⟨ya4, yc4, rfl⟩ := hz.a4.form
          obtain ⟨ya5, yc5, rfl⟩ := hz.a5.form
          have HX := HX.below hbq
          have H8 := H8.below hbq
          have HT := HT.later hbq
          have HY := hz
          clear hz hbq
          (refine hK.out _ _ (⟨HT.a.1, HT.b.1⟩) (fun hHeld => ?_); clear hK K; (try simp only [Act.put, List.setIfInBounds_toArray, List.set_cons_zero, List.set_cons_succ]))
          (refine held_call 6 rfl (by kernel_rfl) (fun K hK => ?_); go_simp)
          obtain ⟨b7, hb7⟩ : ∃ b, b = wk3.heap.size := ⟨_, rfl⟩
          obtain ⟨wk4, hwn⟩ : ∃ V, V = wk3.alloc (.cells #[.slice none 0 0, .slice none 0 0, .slice none 0 0, .slice none 0 0, .slice none 0 0, .slice none 0 0] 30) := ⟨_, rfl⟩
          rw [← hwn, ← hb7]
          have hbq : Below wk3.heap.size wk3 wk4 := by rw [hwn]; exact (Below.refl _ _).alloc (Nat.le_refl _) _
          have H7 : Blk wk4 b7 #[.slice none 0 0, .slice none 0 0, .slice none 0 0, .slice none 0 0, .slice none 0 0, .slice none 0 0] := by rw [hwn, hb7]; exact Blk.new _ _ _
          have lb7 : w.heap.size + 2 < b7 := by rw [hb7]; exact HT.c.2.2
          have hne : b8 < b7 := by rw [hb7]; exact H8.2.2
          have HX := HX.below hbq
          have HY := HY.below hbq
          have H8 := H8.below hbq
          have HT := HT.later hbq
          clear hbq hwn hb7
          (refine hK.out _ _ (⟨HT.a.1, HT.b.1⟩) (fun hHeld => ?_); clear hK K; (try simp only [Act.put, List.setIfInBounds_toArray, List.set_cons_zero, List.set_cons_succ]))
          have Hc := H7
          obtain ⟨cs, fs, zs⟩ := Hc
          (refine held_call 8 rfl (by kernel_rfl) (fun K hK => ?_); go_simp)
          clear cs fs zs
          obtain ⟨wn, hwn⟩ : ∃ W, W = puts wk4 b7 0 [.slice xa0 d.more.length xc0, .slice xa1 d.gone.length xc1, .slice xa2 d.grow.length xc2, .slice xa3 d.ungrow.length xc3, .slice xa4 d.shrink.length xc4, .slice xa5 d.unshrink.length xc5] := ⟨_, rfl⟩
          have hch : ((((((wk4.setCell ⟨b7, 0, none⟩ (.slice xa0 d.more.length xc0)).setCell ⟨b7, 1, none⟩ (.slice xa1 d.gone.length xc1)).setCell ⟨b7, 2, none⟩ (.slice xa2 d.grow.length xc2)).setCell ⟨b7, 3, none⟩ (.slice xa3 d.ungrow.length xc3)).setCell ⟨b7, 4, none⟩ (.slice xa4 d.shrink.length xc4)).setCell ⟨b7, 5, none⟩ (.slice xa5 d.unshrink.length xc5)) = wn := hwn.symm
          rw [hch]
          clear hch
          have HBS : BlkS wk4 b7 6 := ⟨_, H7, rfl, by simp [isSl]⟩
          have HT := HT.puts (g := b7) (by omega) [.slice xa0 d.more.length xc0, .slice xa1 d.gone.length xc1, .slice xa2 d.grow.length xc2, .slice xa3 d.ungrow.length xc3, .slice xa4 d.shrink.length xc4, .slice xa5 d.unshrink.length xc5]
          have HX := HX.puts [.slice xa0 d.more.length xc0, .slice xa1 d.gone.length xc1, .slice xa2 d.grow.length xc2, .slice xa3 d.ungrow.length xc3, .slice xa4 d.shrink.length xc4, .slice xa5 d.unshrink.length xc5] HBS (by simp) (by simp [isSl])
          have HY := HY.puts [.slice xa0 d.more.length xc0, .slice xa1 d.gone.length xc1, .slice xa2 d.grow.length xc2, .slice xa3 d.ungrow.length xc3, .slice xa4 d.shrink.length xc4, .slice xa5 d.unshrink.length xc5] HBS (by simp) (by simp [isSl])
          have H7 := H7.six (.slice xa0 d.more.length xc0) (.slice xa1 d.gone.length xc1) (.slice xa2 d.grow.length xc2) (.slice xa3 d.ungrow.length xc3) (.slice xa4 d.shrink.length xc4) (.slice xa5 d.unshrink.length xc5)
          have H8 := H8.puts_far (g := b7) (by omega) [.slice xa0 d.more.length xc0, .slice xa1 d.gone.length xc1, .slice xa2 d.grow.length xc2, .slice xa3 d.ungrow.length xc3, .slice xa4 d.shrink.length xc4, .slice xa5 d.unshrink.length xc5] 0 wk4
          rw [← hwn] at HT HX HY H7 H8
          clear hwn HBS
          (refine hK.out _ _ (⟨HT.a.1, HT.b.1⟩) (fun hHeld => ?_); clear hK K; (try simp only [Act.put, List.setIfInBounds_toArray, List.set_cons_zero, List.set_cons_succ]))
          generalize wn = wn8 at *
          have Hc := H8
          obtain ⟨cs, fs, zs⟩ := Hc
          (refine held_call 9 rfl (by kernel_rfl) (fun K hK => ?_); go_simp)
          clear cs fs zs
          obtain ⟨wn, hwn⟩ : ∃ W, W = puts wn8 b8 0 [.slice ya0 d.more.length yc0, .slice ya1 d.gone.length yc1, .slice ya2 d.grow.length yc2, .slice ya3 d.ungrow.length yc3, .slice ya4 d.shrink.length yc4, .slice ya5 d.unshrink.length yc5] := ⟨_, rfl⟩
          have hch : ((((((wn8.setCell ⟨b8, 0, none⟩ (.slice ya0 d.more.length yc0)).setCell ⟨b8, 1, none⟩ (.slice ya1 d.gone.length yc1)).setCell ⟨b8, 2, none⟩ (.slice ya2 d.grow.length yc2)).setCell ⟨b8, 3, none⟩ (.slice ya3 d.ungrow.length yc3)).setCell ⟨b8, 4, none⟩ (.slice ya4 d.shrink.length yc4)).setCell ⟨b8, 5, none⟩ (.slice ya5 d.unshrink.length yc5)) = wn := hwn.symm
          rw [hch]
          clear hch
          have HBS : BlkS wn8 b8 6 := ⟨_, H8, rfl, by simp [isSl]⟩
          have HT := HT.puts (g := b8) (by omega) [.slice ya0 d.more.length yc0, .slice ya1 d.gone.length yc1, .slice ya2 d.grow.length yc2, .slice ya3 d.ungrow.length yc3, .slice ya4 d.shrink.length yc4, .slice ya5 d.unshrink.length yc5]
          have HX := HX.puts [.slice ya0 d.more.length yc0, .slice ya1 d.gone.length yc1, .slice ya2 d.grow.length yc2, .slice ya3 d.ungrow.length yc3, .slice ya4 d.shrink.length yc4, .slice ya5 d.unshrink.length yc5] HBS (by simp) (by simp [isSl])
          have HY := HY.puts [.slice ya0 d.more.length yc0, .slice ya1 d.gone.length yc1, .slice ya2 d.grow.length yc2, .slice ya3 d.ungrow.length yc3, .slice ya4 d.shrink.length yc4, .slice ya5 d.unshrink.length yc5] HBS (by simp) (by simp [isSl])
          have H8 := H8.six (.slice ya0 d.more.length yc0) (.slice ya1 d.gone.length yc1) (.slice ya2 d.grow.length yc2) (.slice ya3 d.ungrow.length yc3) (.slice ya4 d.shrink.length yc4) (.slice ya5 d.unshrink.length yc5)
          have H7 := H7.puts_far (g := b8) (by omega) [.slice ya0 d.more.length yc0, .slice ya1 d.gone.length yc1, .slice ya2 d.grow.length yc2, .slice ya3 d.ungrow.length yc3, .slice ya4 d.shrink.length yc4, .slice ya5 d.unshrink.length yc5] 0 wn8
          rw [← hwn] at HT HX HY H7 H8
          clear hwn HBS
          (refine hK.out _ _ (⟨HT.a.1, HT.b.1⟩) (fun hHeld => ?_); clear hK K; (try simp only [Act.put, List.setIfInBounds_toArray, List.set_cons_zero, List.set_cons_succ]))
          refine wpAnyH_done (by kernel_rfl) ?_ _
          go_wp2_with fail
          go_meet
          exact ⟨b7, b8, xa0, ya0, xa1, ya1, xa2, ya2, xa3, ya3, xa4, ya4, xa5, ya5, xc0, yc0, xc1, yc1, xc2, yc2, xc3, yc3, xc4, yc4, xc5, yc5, rfl, rfl, Lib.hid ⟨HT, H7, H8, HX, HY⟩⟩
        · go_simp
          obtain ⟨b7, hb7⟩ : ∃ b, b = wk2.heap.size := ⟨_, rfl⟩
          obtain ⟨wk3, hwn⟩ : ∃ V, V = wk2.alloc (.cells #[.slice none 0 0, .slice none 0 0, .slice none 0 0, .slice none 0 0, .slice none 0 0, .slice none 0 0] 30) := ⟨_, rfl⟩
          rw [← hwn, ← hb7]
          have hbq : Below wk2.heap.size wk2 wk3 := by rw [hwn]; exact (Below.refl _ _).alloc (Nat.le_refl _) _
          have H7 : Blk wk3 b7 #[.slice none 0 0, .slice none 0 0, .slice none 0 0, .slice none 0 0, .slice none 0 0, .slice none 0 0] := by rw [hwn, hb7]; exact Blk.new _ _ _
          have lb7 : w.heap.size + 2 < b7 := by rw [hb7]; exact HT.c.2.2
          have hne : b8 < b7 := by rw [hb7]; exact H8.2.2
          have HX := HX.below hbq
          have H8 := H8.below hbq
          have HT := HT.later hbq
          clear hbq hwn hb7
          (refine hK.out _ _ (⟨HT.a.1, HT.b.1⟩) (fun hHeld => ?_); clear hK K; (try simp only [Act.put, List.setIfInBounds_toArray, List.set_cons_zero, List.set_cons_succ]))
          (refine held_call 5 rfl (by kernel_rfl) (fun K hK => ?_); go_simp)
          go_at_call 8; refine (RF.out _ HT.low).mono ?_; rintro e wk4 ⟨z, rfl, ⟨z0, z1, z2, z3, z4, z5, rfl, hz⟩, hbq⟩
          obtain ⟨ya0, yc0, rfl⟩ := hz.a0.form
          obtain ⟨ya1, yc1, rfl⟩ := hz.a1.form
          obtain ⟨ya2, yc2, rfl⟩ := hz.a2.form
          obtain ⟨ya3, yc3, rfl⟩ := hz.a3.form
          obtain ⟨ya4, yc4, rfl⟩ := hz.a4.form
          obtain ⟨ya5, yc5, rfl⟩ := hz.a5.form
          have HX := HX.below hbq
          have H7 := H7.below hbq
          have H8 := H8.below hbq
          have HT := HT.later hbq
          have HY := hz
          clear hz hbq
          (refine hK.out _ _ (⟨HT.a.1, HT.b.1⟩) (fun hHeld => ?_); clear hK K; (try simp only [Act.put, List.setIfInBounds_toArray, List.set_cons_zero, List.set_cons_succ]))
          have Hc := H7
          obtain ⟨cs, fs, zs⟩ := Hc
          (refine held_call 8 rfl (by kernel_rfl) (fun K hK => ?_); go_simp)
          clear cs fs zs
          obtain ⟨wn, hwn⟩ : ∃ W, W = puts wk4 b7 0 [.slice xa0 d.more.length xc0, .slice xa1 d.gone.length xc1, .slice xa2 d.grow.length xc2, .slice xa3 d.ungrow.length xc3, .slice xa4 d.shrink.length xc4, .slice xa5 d.unshrink.length xc5] := ⟨_, rfl⟩
          have hch : ((((((wk4.setCell ⟨b7, 0, none⟩ (.slice xa0 d.more.length xc0)).setCell ⟨b7, 1, none⟩ (.slice xa1 d.gone.length xc1)).setCell ⟨b7, 2, none⟩ (.slice xa2 d.grow.length xc2)).setCell ⟨b7, 3, none⟩ (.slice xa3 d.ungrow.length xc3)).setCell ⟨b7, 4, none⟩ (.slice xa4 d.shrink.length xc4)).setCell ⟨b7, 5, none⟩ (.slice xa5 d.unshrink.length xc5)) = wn := hwn.symm
          rw [hch]
          clear hch
          have HBS : BlkS wk4 b7 6 := ⟨_, H7, rfl, by simp [isSl]⟩
          have HT := HT.puts (g := b7) (by omega) [.slice xa0 d.more.length xc0, .slice xa1 d.gone.length xc1, .slice xa2 d.grow.length xc2, .slice xa3 d.ungrow.length xc3, .slice xa4 d.shrink.length xc4, .slice xa5 d.unshrink.length xc5]
          have HX := HX.puts [.slice xa0 d.more.length xc0, .slice xa1 d.gone.length xc1, .slice xa2 d.grow.length xc2, .slice xa3 d.ungrow.length xc3, .slice xa4 d.shrink.length xc4, .slice xa5 d.unshrink.length xc5] HBS (by simp) (by simp [isSl])
          have HY := HY.puts [.slice xa0 d.more.length xc0, .slice xa1 d.gone.length xc1, .slice xa2 d.grow.length xc2, .slice xa3 d.ungrow.length xc3, .slice xa4 d.shrink.length xc4, .slice xa5 d.unshrink.length xc5] HBS (by simp) (by simp [isSl])
          have H7 := H7.six (.slice xa0 d.more.length xc0) (.slice xa1 d.gone.length xc1) (.slice xa2 d.grow.length xc2) (.slice xa3 d.ungrow.length xc3) (.slice xa4 d.shrink.length xc4) (.slice xa5 d.unshrink.length xc5)
          have H8 := H8.puts_far (g := b7) (by omega) [.slice xa0 d.more.length xc0, .slice xa1 d.gone.length xc1, .slice xa2 d.grow.length xc2, .slice xa3 d.ungrow.length xc3, .slice xa4 d.shrink.length xc4, .slice xa5 d.unshrink.length xc5] 0 wk4
          rw [← hwn] at HT HX HY H7 H8
          clear hwn HBS
          (refine hK.out _ _ (⟨HT.a.1, HT.b.1⟩) (fun hHeld => ?_); clear hK K; (try simp only [Act.put, List.setIfInBounds_toArray, List.set_cons_zero, List.set_cons_succ]))
          generalize wn = wn8 at *
          have Hc := H8
          obtain ⟨cs, fs, zs⟩ := Hc
          (refine held_call 9 rfl (by kernel_rfl) (fun K hK => ?_); go_simp)
          clear cs fs zs
          obtain ⟨wn, hwn⟩ : ∃ W, W = puts wn8 b8 0 [.slice ya0 d.more.length yc0, .slice ya1 d.gone.length yc1, .slice ya2 d.grow.length yc2, .slice ya3 d.ungrow.length yc3, .slice ya4 d.shrink.length yc4, .slice ya5 d.unshrink.length yc5] := ⟨_, rfl⟩
          have hch : ((((((wn8.setCell ⟨b8, 0, none⟩ (.slice ya0 d.more.length yc0)).setCell ⟨b8, 1, none⟩ (.slice ya1 d.gone.length yc1)).setCell ⟨b8, 2, none⟩ (.slice ya2 d.grow.length yc2)).setCell ⟨b8, 3, none⟩ (.slice ya3 d.ungrow.length yc3)).setCell ⟨b8, 4, none⟩ (.slice ya4 d.shrink.length yc4)).setCell ⟨b8, 5, none⟩ (.slice ya5 d.unshrink.length yc5)) = wn := hwn.symm
          rw [hch]
          clear hch
          have HBS : BlkS wn8 b8 6 := ⟨_, H8, rfl, by simp [isSl]⟩
          have HT := HT.puts (g := b8) (by omega) [.slice ya0 d.more.length yc0, .slice ya1 d.gone.length yc1, .slice ya2 d.grow.length yc2, .slice ya3 d.ungrow.length yc3, .slice ya4 d.shrink.length yc4, .slice ya5 d.unshrink.length yc5]
          have HX := HX.puts [.slice ya0 d.more.length yc0, .slice ya1 d.gone.length yc1, .slice ya2 d.grow.length yc2, .slice ya3 d.ungrow.length yc3, .slice ya4 d.shrink.length yc4, .slice ya5 d.unshrink.length yc5] HBS (by simp) (by simp [isSl])
          have HY := HY.puts [.slice ya0 d.more.length yc0, .slice ya1 d.gone.length yc1, .slice ya2 d.grow.length yc2, .slice ya3 d.ungrow.length yc3, .slice ya4 d.shrink.length yc4, .slice ya5 d.unshrink.length yc5] HBS (by simp) (by simp [isSl])
          have H8 := H8.six (.slice ya0 d.more.length yc0) (.slice ya1 d.gone.length yc1) (.slice ya2 d.grow.length yc2) (.slice ya3 d.ungrow.length yc3) (.slice ya4 d.shrink.length yc4) (.slice ya5 d.unshrink.length yc5)
          have H7 := H7.puts_far (g := b8) (by omega) [.slice ya0 d.more.length yc0, .slice ya1 d.gone.length yc1, .slice ya2 d.grow.length yc2, .slice ya3 d.ungrow.length yc3, .slice ya4 d.shrink.length yc4, .slice ya5 d.unshrink.length yc5] 0 wn8
          rw [← hwn] at HT HX HY H7 H8
          clear hwn HBS
          (refine hK.out _ _ (⟨HT.a.1, HT.b.1⟩) (fun hHeld => ?_); clear hK K; (try simp only [Act.put, List.setIfInBounds_toArray, List.set_cons_zero, List.set_cons_succ]))
          refine wpAnyH_done (by kernel_rfl) ?_ _
          go_wp2_with fail
          go_meet
          exact ⟨b7, b8, xa0, ya0, xa1, ya1, xa2, ya2, xa3, ya3, xa4, ya4, xa5, ya5, xc0, yc0, xc1, yc1, xc2, yc2, xc3, yc3, xc4, yc4, xc5, yc5, rfl, rfl, Lib.hid ⟨HT, H7, H8, HX, HY⟩⟩
      · go_simp
        obtain ⟨b7, hb7⟩ : ∃ b, b = wk1.heap.size := ⟨_, rfl⟩
        obtain ⟨wk2, hwn⟩ : ∃ V, V = wk1.alloc (.cells #[.slice none 0 0, .slice none 0 0, .slice none 0 0, .slice none 0 0, .slice none 0 0, .slice none 0 0] 30) := ⟨_, rfl⟩
        rw [← hwn, ← hb7]
        have hbq : Below wk1.heap.size wk1 wk2 := by rw [hwn]; exact (Below.refl _ _).alloc (Nat.le_refl _) _
        have H7 : Blk wk2 b7 #[.slice none 0 0, .slice none 0 0, .slice none 0 0, .slice none 0 0, .slice none 0 0, .slice none 0 0] := by rw [hwn, hb7]; exact Blk.new _ _ _
        have lb7 : w.heap.size + 2 < b7 := by rw [hb7]; exact HT.c.2.2
        have hne : b8 < b7 := by rw [hb7]; exact H8.2.2
        have H8 := H8.below hbq
        have HT := HT.later hbq
        clear hbq hwn hb7
        (refine hK.out _ _ (⟨HT.a.1, HT.b.1⟩) (fun hHeld => ?_); clear hK K; (try simp only [Act.put, List.setIfInBounds_toArray, List.set_cons_zero, List.set_cons_succ]))
        (refine held_call 2 rfl (by kernel_rfl) (fun K hK => ?_); go_simp)
        go_at_call 7; refine (OF.out _ HT.low).mono ?_; rintro e wk3 ⟨z, rfl, ⟨z0, z1, z2, z3, z4, z5, rfl, hz⟩, hbq⟩
        obtain ⟨xa0, xc0, rfl⟩ := hz.a0.form
        obtain ⟨xa1, xc1, rfl⟩ := hz.a1.form
        obtain ⟨xa2, xc2, rfl⟩ := hz.a2.form
        obtain ⟨xa3, xc3, rfl⟩ := hz.a3.form
        obtain ⟨xa4, xc4, rfl⟩ := hz.a4.form
        obtain ⟨xa5, xc5, rfl⟩ := hz.a5.form
        have H7 := H7.below hbq
        have H8 := H8.below hbq
        have HT := HT.later hbq
        have HX := hz
        clear hz hbq
        (refine hK.out _ _ (⟨HT.a.1, HT.b.1⟩) (fun hHeld => ?_); clear hK K; (try simp only [Act.put, List.setIfInBounds_toArray, List.set_cons_zero, List.set_cons_succ]))
        (refine held_call 5 rfl (by kernel_rfl) (fun K hK => ?_); go_simp)
        go_at_call 8; refine (RF.out _ HT.low).mono ?_; rintro e wk4 ⟨z, rfl, ⟨z0, z1, z2, z3, z4, z5, rfl, hz⟩, hbq⟩
        obtain ⟨ya0, yc0, rfl⟩ := hz.a0.form
        obtain ⟨ya1, yc1, rfl⟩ := hz.a1.form
        obtain ⟨ya2, yc2, rfl⟩ := hz.a2.form
        obtain ⟨ya3, yc3, rfl⟩ := hz.a3.form
        obtain ⟨ya4, yc4, rfl⟩ := hz.a4.form
        obtain ⟨ya5, yc5, rfl⟩ := hz.a5.form
        have HX := HX.below hbq
        have H7 := H7.below hbq
        have H8 := H8.below hbq
        have HT := HT.later hbq
        have HY := hz
        clear hz hbq
        (refine hK.out _ _ (⟨HT.a.1, HT.b.1⟩) (fun hHeld => ?_); clear hK K; (try simp only [Act.put, List.setIfInBounds_toArray, List.set_cons_zero, List.set_cons_succ]))
        have Hc := H7
        obtain ⟨cs, fs, zs⟩ := Hc
        (refine held_call 8 rfl (by kernel_rfl) (fun K hK => ?_); go_simp)
        clear cs fs zs
        obtain ⟨wn, hwn⟩ : ∃ W, W = puts wk4 b7 0 [.slice xa0 d.more.length xc0, .slice xa1 d.gone.length xc1, .slice xa2 d.grow.length xc2, .slice xa3 d.ungrow.length xc3, .slice xa4 d.shrink.length xc4, .slice xa5 d.unshrink.length xc5] := ⟨_, rfl⟩
        have hch : ((((((wk4.setCell ⟨b7, 0, none⟩ (.slice xa0 d.more.length xc0)).setCell ⟨b7, 1, none⟩ (.slice xa1 d.gone.length xc1)).setCell ⟨b7, 2, none⟩ (.slice xa2 d.grow.length xc2)).setCell ⟨b7, 3, none⟩ (.slice xa3 d.ungrow.length xc3)).setCell ⟨b7, 4, none⟩ (.slice xa4 d.shrink.length xc4)).setCell ⟨b7, 5, none⟩ (.slice xa5 d.unshrink.length xc5)) = wn := hwn.symm
        rw [hch]
        clear hch
        have HBS : BlkS wk4 b7 6 := ⟨_, H7, rfl, by simp [isSl]⟩
        have HT := HT.puts (g := b7) (by omega) [.slice xa0 d.more.length xc0, .slice xa1 d.gone.length xc1, .slice xa2 d.grow.length xc2, .slice xa3 d.ungrow.length xc3, .slice xa4 d.shrink.length xc4, .slice xa5 d.unshrink.length xc5]
        have HX := HX.puts [.slice xa0 d.more.length xc0, .slice xa1 d.gone.length xc1, .slice xa2 d.grow.length xc2, .slice xa3 d.ungrow.length xc3, .slice xa4 d.shrink.length xc4, .slice xa5 d.unshrink.length xc5] HBS (by simp) (by simp [isSl])
        have HY := HY.puts [.slice xa0 d.more.length xc0, .slice xa1 d.gone.length xc1, .slice xa2 d.grow.length xc2, .slice xa3 d.ungrow.length xc3, .slice xa4 d.shrink.length xc4, .slice xa5 d.unshrink.length xc5] HBS (by simp) (by simp [isSl])
        have H7 := H7.six (.slice xa0 d.more.length xc0) (.slice xa1 d.gone.length xc1) (.slice xa2 d.grow.length xc2) (.slice xa3 d.ungrow.length xc3) (.slice xa4 d.shrink.length xc4) (.slice xa5 d.unshrink.length xc5)
        have H8 := H8.puts_far (g := b7) (by omega) [.slice xa0 d.more.length xc0, .slice xa1 d.gone.length xc1, .slice xa2 d.grow.length xc2, .slice xa3 d.ungrow.length xc3, .slice xa4 d.shrink.length xc4, .slice xa5 d.unshrink.length xc5] 0 wk4
        rw [← hwn] at HT HX HY H7 H8
        clear hwn HBS
        (refine hK.out _ _ (⟨HT.a.1, HT.b.1⟩) (fun hHeld => ?_); clear hK K; (try simp only [Act.put, List.setIfInBounds_toArray, List.set_cons_zero, List.set_cons_succ]))
        generalize wn = wn8 at *
        have Hc := H8
        obtain ⟨cs, fs, zs⟩ := Hc
        (refine held_call 9 rfl (by kernel_rfl) (fun K hK => ?_); go_simp)
        clear cs fs zs
        obtain ⟨wn, hwn⟩ : ∃ W, W = puts wn8 b8 0 [.slice ya0 d.more.length yc0, .slice ya1 d.gone.length yc1, .slice ya2 d.grow.length yc2, .slice ya3 d.ungrow.length yc3, .slice ya4 d.shrink.length yc4, .slice ya5 d.unshrink.length yc5] := ⟨_, rfl⟩
        have hch : ((((((wn8.setCell ⟨b8, 0, none⟩ (.slice ya0 d.more.length yc0)).setCell ⟨b8, 1, none⟩ (.slice ya1 d.gone.length yc1)).setCell ⟨b8, 2, none⟩ (.slice ya2 d.grow.length yc2)).setCell ⟨b8, 3, none⟩ (.slice ya3 d.ungrow.length yc3)).setCell ⟨b8, 4, none⟩ (.slice ya4 d.shrink.length yc4)).setCell ⟨b8, 5, none⟩ (.slice ya5 d.unshrink.length yc5)) = wn := hwn.symm
        rw [hch]
        clear hch
        have HBS : BlkS wn8 b8 6 := ⟨_, H8, rfl, by simp [isSl]⟩
        have HT := HT.puts (g := b8) (by omega) [.slice ya0 d.more.length yc0, .slice ya1 d.gone.length yc1, .slice ya2 d.grow.length yc2, .slice ya3 d.ungrow.length yc3, .slice ya4 d.shrink.length yc4, .slice ya5 d.unshrink.length yc5]
        have HX := HX.puts [.slice ya0 d.more.length yc0, .slice ya1 d.gone.length yc1, .slice ya2 d.grow.length yc2, .slice ya3 d.ungrow.length yc3, .slice ya4 d.shrink.length yc4, .slice ya5 d.unshrink.length yc5] HBS (by simp) (by simp [isSl])
        have HY := HY.puts [.slice ya0 d.more.length yc0, .slice ya1 d.gone.length yc1, .slice ya2 d.grow.length yc2, .slice ya3 d.ungrow.length yc3, .slice ya4 d.shrink.length yc4, .slice ya5 d.unshrink.length yc5] HBS (by simp) (by simp [isSl])
        have H8 := H8.six (.slice ya0 d.more.length yc0) (.slice ya1 d.gone.length yc1) (.slice ya2 d.grow.length yc2) (.slice ya3 d.ungrow.length yc3) (.slice ya4 d.shrink.length yc4) (.slice ya5 d.unshrink.length yc5)
        have H7 := H7.puts_far (g := b8) (by omega) [.slice ya0 d.more.length yc0, .slice ya1 d.gone.length yc1, .slice ya2 d.grow.length yc2, .slice ya3 d.ungrow.length yc3, .slice ya4 d.shrink.length yc4, .slice ya5 d.unshrink.length yc5] 0 wn8
        rw [← hwn] at HT HX HY H7 H8
        clear hwn HBS
        (refine hK.out _ _ (⟨HT.a.1, HT.b.1⟩) (fun hHeld => ?_); clear hK K; (try simp only [Act.put, List.setIfInBounds_toArray, List.set_cons_zero, List.set_cons_succ]))
        refine wpAnyH_done (by kernel_rfl) ?_ _
        go_wp2_with fail
        go_meet
        exact ⟨b7, b8, xa0, ya0, xa1, ya1, xa2, ya2, xa3, ya3, xa4, ya4, xa5, ya5, xc0, yc0, xc1, yc1, xc2, yc2, xc3, yc3, xc4, yc4, xc5, yc5, rfl, rfl, Lib.hid ⟨HT, H7, H8, HX, HY⟩⟩
  case rest =>
    clear HT OF RF HN1 HN2 HN3
    obtain ⟨b7, b8, xa0, ya0, xa1, ya1, xa2, ya2, xa3, ya3, xa4, ya4, xa5, ya5, xc0, yc0, xc1, yc1, xc2, yc2, xc3, yc3, xc4, yc4, xc5, yc5, rfl, rfl, HD⟩ := hcut
    rename World => wb
    generalize d.tight = r at TR EM TG
    generalize hrn : d.none = rn at EM
    have HRN := Lib.hid hrn
    clear hrn
    have E2 := EM.out
    have E1 := TR.out
    have hR : ((((d.more.length : Int) + d.gone.length) + d.ungrow.length) + d.unshrink.length == 0) = r := by rw [← E1, Bool.eq_iff_iff, beq_iff_eq, decide_eq_true_iff]; omega
    have hG : ((d.grow.length : Int) + d.shrink.length == 0) = decide (d.grow.length + d.shrink.length = 0) := by rw [Bool.eq_iff_iff, beq_iff_eq, decide_eq_true_iff]; omega
    generalize decide (d.grow.length + d.shrink.length = 0) = rg at E2 hG
    have HG := Lib.hid hG
    have HE2 := Lib.hid E2
    clear hG E1 E2 TR EM
    have e1 : IntKind.i64.wrap ((d.more.length : Int) + d.gone.length) = d.more.length + d.gone.length := Go.IntWalk.i64_in _ (by omega)
    have e2 : IntKind.i64.wrap ((d.more.length : Int) + d.gone.length + d.ungrow.length) = d.more.length + d.gone.length + d.ungrow.length := Go.IntWalk.i64_in _ (by omega)
    have e3 : IntKind.i64.wrap ((d.more.length : Int) + d.gone.length + d.ungrow.length + d.unshrink.length) = d.more.length + d.gone.length + d.ungrow.length + d.unshrink.length := Go.IntWalk.i64_in _ (by omega)
    have e4 : IntKind.i64.wrap ((d.grow.length : Int) + d.shrink.length) = d.grow.length + d.shrink.length := Go.IntWalk.i64_in _ (by omega)
    obtain ⟨c8, f8, z8⟩ := HD.out.h8
    have HD2 := Lib.hid (HD.out.later ((Below.refl _ _).alloc (Nat.le_refl _) (.cells #[.slice ya1 d.gone.length yc1, .slice ya0 d.more.length yc0, .slice ya3 d.ungrow.length yc3, .slice ya2 d.grow.length yc2, .slice ya5 d.unshrink.length yc5, .slice ya4 d.shrink.length yc4] 32)))
    have H9 := Lib.hid (Blk.new wb #[.slice ya1 d.gone.length yc1, .slice ya0 d.more.length yc0, .slice ya3 d.ungrow.length yc3, .slice ya2 d.grow.length yc2, .slice ya5 d.unshrink.length yc5, .slice ya4 d.shrink.length yc4] 32)
    clear HD
    go_upto_region 6 with fail
    go_cut [11] (fun s11 wx => s11 = .bool rn ∧ Hid (Dls w #[.slice va0 l1.length vc0, .slice va1 g1.length vc1, .slice va2 h1.length vc2, .slice va3 q1.length vc3] #[.slice ua0 l2.length uc0, .slice ua1 g2.length uc1, .slice ua2 h2.length uc2, .slice ua3 q2.length uc3] #[.slice ta0 l3.length tc0, .slice ta1 g3.length tc1, .slice ta2 h3.length tc2, .slice ta3 q3.length tc3] d b7 b8 (.slice xa0 d.more.length xc0) (.slice xa1 d.gone.length xc1) (.slice xa2 d.grow.length xc2) (.slice xa3 d.ungrow.length xc3) (.slice xa4 d.shrink.length xc4) (.slice xa5 d.unshrink.length xc5) (.slice ya0 d.more.length yc0) (.slice ya1 d.gone.length yc1) (.slice ya2 d.grow.length yc2) (.slice ya3 d.ungrow.length yc3) (.slice ya4 d.shrink.length yc4) (.slice ya5 d.unshrink.length yc5) wx) ∧ Hid (Blk wx wb.heap.size #[.slice ya1 d.gone.length yc1, .slice ya0 d.more.length yc0, .slice ya3 d.ungrow.length yc3, .slice ya2 d.grow.length yc2, .slice ya5 d.unshrink.length yc5, .slice ya4 d.shrink.length yc4]))
    case first =>
      clear TG AP RA SP HL HP1 HP2 HP3 DL3 DLK HRN e1 e2 e3
      have hG := HG.out
      cases r with
      | false =>
        go_wp2_with fail
        go_meet
        exact ⟨by rw [HE2.out]; rfl, HD2, H9⟩
      | true =>
        go_wp2_with fail
        go_meet
        exact ⟨by rw [HE2.out]; rfl, HD2, H9⟩
    case rest =>
      clear HD2 H9 HG HE2 e1 e2 e3 e4 hR c8 f8 z8 m0 m1 m2 m3 m4 m5
      obtain ⟨rfl, HD, H9⟩ := hcut
      generalize wb.heap.size = b9 at *
      have RS1 := Lib.hid (fun W (hx : DlAt W (.slice xa0 d.more.length xc0) (.slice xa1 d.gone.length xc1) (.slice xa2 d.grow.length xc2) (.slice xa3 d.ungrow.length xc3) (.slice xa4 d.shrink.length xc4) (.slice xa5 d.unshrink.length xc5) d) (hy : DlAt W (.slice ya0 d.more.length yc0) (.slice ya1 d.gone.length yc1) (.slice ya2 d.grow.length yc2) (.slice ya3 d.ungrow.length yc3) (.slice ya4 d.shrink.length yc4) (.slice ya5 d.unshrink.length yc5) d) => d.eqv_self ▸ ref32_Same (.slice xa0 d.more.length xc0) (.slice xa1 d.gone.length xc1) (.slice xa2 d.grow.length xc2) (.slice xa3 d.ungrow.length xc3) (.slice xa4 d.shrink.length xc4) (.slice xa5 d.unshrink.length xc5) (.slice ya0 d.more.length yc0) (.slice ya1 d.gone.length yc1) (.slice ya2 d.grow.length yc2) (.slice ya3 d.ungrow.length yc3) (.slice ya4 d.shrink.length yc4) (.slice ya5 d.unshrink.length yc5) d d W hx hy)
      have BK := Lib.hid (fun W (hx : DlAt W (.slice xa0 d.more.length xc0) (.slice xa1 d.gone.length xc1) (.slice xa2 d.grow.length xc2) (.slice xa3 d.ungrow.length xc3) (.slice xa4 d.shrink.length xc4) (.slice xa5 d.unshrink.length xc5) d) => delta_Back (.slice xa0 d.more.length xc0) (.slice xa1 d.gone.length xc1) (.slice xa2 d.grow.length xc2) (.slice xa3 d.ungrow.length xc3) (.slice xa4 d.shrink.length xc4) (.slice xa5 d.unshrink.length xc5) d W hx)
      have RS2 := Lib.hid (fun W (hx : DlAt W (.slice xa1 d.gone.length xc1) (.slice xa0 d.more.length xc0) (.slice xa3 d.ungrow.length xc3) (.slice xa2 d.grow.length xc2) (.slice xa5 d.unshrink.length xc5) (.slice xa4 d.shrink.length xc4) d.back) (hy : DlAt W (.slice ya1 d.gone.length yc1) (.slice ya0 d.more.length yc0) (.slice ya3 d.ungrow.length yc3) (.slice ya2 d.grow.length yc2) (.slice ya5 d.unshrink.length yc5) (.slice ya4 d.shrink.length yc4) d.back) => d.back.eqv_self ▸ ref32_Same (.slice xa1 d.gone.length xc1) (.slice xa0 d.more.length xc0) (.slice xa3 d.ungrow.length xc3) (.slice xa2 d.grow.length xc2) (.slice xa5 d.unshrink.length xc5) (.slice xa4 d.shrink.length xc4) (.slice ya1 d.gone.length yc1) (.slice ya0 d.more.length yc0) (.slice ya3 d.ungrow.length yc3) (.slice ya2 d.grow.length yc2) (.slice ya5 d.unshrink.length yc5) (.slice ya4 d.shrink.length yc4) d.back d.back W hx hy)
      have EC := Lib.hid (fun W (hx : DlAt W (.slice xa0 d.more.length xc0) (.slice xa1 d.gone.length xc1) (.slice xa2 d.grow.length xc2) (.slice xa3 d.ungrow.length xc3) (.slice xa4 d.shrink.length xc4) (.slice xa5 d.unshrink.length xc5) d) => HRN.out ▸ delta_Empty (.slice xa0 d.more.length xc0) (.slice xa1 d.gone.length xc1) (.slice xa2 d.grow.length xc2) (.slice xa3 d.ungrow.length xc3) (.slice xa4 d.shrink.length xc4) (.slice xa5 d.unshrink.length xc5) d 0 4294967 W hx DLK.out)
      have DS := Lib.hid (fun W (hx : DlAt W (.slice xa0 d.more.length xc0) (.slice xa1 d.gone.length xc1) (.slice xa2 d.grow.length xc2) (.slice xa3 d.ungrow.length xc3) (.slice xa4 d.shrink.length xc4) (.slice xa5 d.unshrink.length xc5) d) (hy : DlAt W (.slice xa1 d.gone.length xc1) (.slice xa0 d.more.length xc0) (.slice xa3 d.ungrow.length xc3) (.slice xa2 d.grow.length xc2) (.slice xa5 d.unshrink.length xc5) (.slice xa4 d.shrink.length xc4) d.back) => delta_Same (.slice xa0 d.more.length xc0) (.slice xa1 d.gone.length xc1) (.slice xa2 d.grow.length xc2) (.slice xa3 d.ungrow.length xc3) (.slice xa4 d.shrink.length xc4) (.slice xa5 d.unshrink.length xc5) (.slice xa1 d.gone.length xc1) (.slice xa0 d.more.length xc0) (.slice xa3 d.ungrow.length xc3) (.slice xa2 d.grow.length xc2) (.slice xa5 d.unshrink.length xc5) (.slice xa4 d.shrink.length xc4) d d.back W hx hy)
      have RS3 := Lib.hid (fun W (hx : DlAt W (.slice ya0 d.more.length yc0) (.slice ya1 d.gone.length yc1) (.slice ya2 d.grow.length yc2) (.slice ya3 d.ungrow.length yc3) (.slice ya4 d.shrink.length yc4) (.slice ya5 d.unshrink.length yc5) d) (hy : DlAt W (.slice ya1 d.gone.length yc1) (.slice ya0 d.more.length yc0) (.slice ya3 d.ungrow.length yc3) (.slice ya2 d.grow.length yc2) (.slice ya5 d.unshrink.length yc5) (.slice ya4 d.shrink.length yc4) d.back) => ref32_Same (.slice ya0 d.more.length yc0) (.slice ya1 d.gone.length yc1) (.slice ya2 d.grow.length yc2) (.slice ya3 d.ungrow.length yc3) (.slice ya4 d.shrink.length yc4) (.slice ya5 d.unshrink.length yc5) (.slice ya1 d.gone.length yc1) (.slice ya0 d.more.length yc0) (.slice ya3 d.ungrow.length yc3) (.slice ya2 d.grow.length yc2) (.slice ya5 d.unshrink.length yc5) (.slice ya4 d.shrink.length yc4) d d.back W hx hy)
      have LN1 := Lib.hid (fun W (hx : DlAt W (.slice xa0 d.more.length xc0) (.slice xa1 d.gone.length xc1) (.slice xa2 d.grow.length xc2) (.slice xa3 d.ungrow.length xc3) (.slice xa4 d.shrink.length xc4) (.slice xa5 d.unshrink.length xc5) d) => delta_Lines (.slice xa0 d.more.length xc0) (.slice xa1 d.gone.length xc1) (.slice xa2 d.grow.length xc2) (.slice xa3 d.ungrow.length xc3) (.slice xa4 d.shrink.length xc4) (.slice xa5 d.unshrink.length xc5) d W hx DL3.out)
      have LN2 := Lib.hid (fun W (hx : DlAt W (.slice ya0 d.more.length yc0) (.slice ya1 d.gone.length yc1) (.slice ya2 d.grow.length yc2) (.slice ya3 d.ungrow.length yc3) (.slice ya4 d.shrink.length yc4) (.slice ya5 d.unshrink.length yc5) d) => ref32_Lines (.slice ya0 d.more.length yc0) (.slice ya1 d.gone.length yc1) (.slice ya2 d.grow.length yc2) (.slice ya3 d.ungrow.length yc3) (.slice ya4 d.shrink.length yc4) (.slice ya5 d.unshrink.length yc5) d W hx DL3.out)
      have SM := Lib.hid (fun va vb W ha hb => ref1_SameB va vb d.lines W ha hb)
      generalize d.eqv d.back = re at DS RS3
      generalize d.lines = dl at LN1 LN2 SM
      clear HRN DL3 DLK DLE
      have HD := HD.out
      have H9 := H9.out
      go_wp2_with fail
      skip
      refine wp_region_held_drew (S := (fun W => (∀ o, W.cell? ⟨b7, o, none⟩ = (#[.slice xa0 d.more.length xc0, .slice xa1 d.gone.length xc1, .slice xa2 d.grow.length xc2, .slice xa3 d.ungrow.length xc3, .slice xa4 d.shrink.length xc4, .slice xa5 d.unshrink.length xc5] : Array Value)[o]?) ∧ (∀ o, W.cell? ⟨b8, o, none⟩ = (#[.slice ya0 d.more.length yc0, .slice ya1 d.gone.length yc1, .slice ya2 d.grow.length yc2, .slice ya3 d.ungrow.length yc3, .slice ya4 d.shrink.length yc4, .slice ya5 d.unshrink.length yc5] : Array Value)[o]?) ∧ (∀ o, W.cell? ⟨b9, o, none⟩ = (#[.slice ya1 d.gone.length yc1, .slice ya0 d.more.length yc0, .slice ya3 d.ungrow.length yc3, .slice ya2 d.grow.length yc2, .slice ya5 d.unshrink.length yc5, .slice ya4 d.shrink.length yc4] : Array Value)[o]?) ∧ (∀ o, W.cell? ⟨w.heap.size, o, none⟩ = (#[.slice va0 l1.length vc0, .slice va1 g1.length vc1, .slice va2 h1.length vc2, .slice va3 q1.length vc3] : Array Value)[o]?) ∧ (∀ o, W.cell? ⟨w.heap.size + 1, o, none⟩ = (#[.slice ua0 l2.length uc0, .slice ua1 g2.length uc1, .slice ua2 h2.length uc2, .slice ua3 q2.length uc3] : Array Value)[o]?))) (by kernel_rfl) (by have HD := HD.later (below_drew (Below.refl _ _)); have H9 := H9.below (below_drew (Below.refl _ _)); exact (⟨HD.h7.1, HD.h8.1, H9.1, HD.t.a.1, HD.t.b.1⟩)) (fun hHeld => ?_)
      have HD := HD.later (below_drew (Below.refl _ _))
      have H9 := H9.below (below_drew (Below.refl _ _))
      (refine held_yes (v := ?_) 0 rfl (by kernel_rfl) (by kernel_rfl) (by kernel_rfl) (fun _ _ _ h => h) (by rfl) (by assumption) ?_ ?_; rotate_left; focus ((intro w hSw); (try dsimp only at hSw); go_simp; (try with_reducible rfl)); (try simp only [Act.put, List.setIfInBounds_toArray, List.set_cons_zero, List.set_cons_succ])); (refine held_yes (v := ?_) 1 rfl (by kernel_rfl) (by kernel_rfl) (by kernel_rfl) (fun _ _ _ h => h) (by rfl) (by assumption) ?_ ?_; rotate_left; focus ((intro w hSw); (try dsimp only at hSw); go_simp; (try with_reducible rfl)); (try simp only [Act.put, List.setIfInBounds_toArray, List.set_cons_zero, List.set_cons_succ]))
      (refine held_call 2 rfl (by kernel_rfl) (fun K hK => ?_); go_simp)
      go_at_call 9; refine (RS1.out _ HD.hx HD.hy).mono ?_; rintro e wq ⟨rfl, hbq⟩; have HD := HD.later hbq; have H9 := H9.below hbq; clear hbq
      (refine hK.out _ _ (⟨HD.h7.1, HD.h8.1, H9.1, HD.t.a.1, HD.t.b.1⟩) (fun hHeld => ?_); clear hK K; (try simp only [Act.put, List.setIfInBounds_toArray, List.set_cons_zero, List.set_cons_succ]))
      (refine held_yes (v := ?_) 3 rfl (by kernel_rfl) (by kernel_rfl) (by kernel_rfl) (fun _ _ _ h => h) (by rfl) (by assumption) ?_ ?_; rotate_left; focus ((intro w hSw); (try dsimp only at hSw); go_simp; (try with_reducible rfl)); (try simp only [Act.put, List.setIfInBounds_toArray, List.set_cons_zero, List.set_cons_succ])); (refine held_yes (v := ?_) 4 rfl (by kernel_rfl) (by kernel_rfl) (by kernel_rfl) (fun _ _ _ h => h) (by rfl) (by assumption) ?_ ?_; rotate_left; focus ((intro w hSw); (try dsimp only at hSw); go_simp; (try with_reducible rfl)); (try simp only [Act.put, List.setIfInBounds_toArray, List.set_cons_zero, List.set_cons_succ])); (refine held_yes (v := ?_) 5 rfl (by kernel_rfl) (by kernel_rfl) (by kernel_rfl) (fun _ _ _ h => h) (by rfl) (by assumption) ?_ ?_; rotate_left; focus ((intro w hSw); (try dsimp only at hSw); go_simp; (try with_reducible rfl)); (try simp only [Act.put, List.setIfInBounds_toArray, List.set_cons_zero, List.set_cons_succ])); (refine held_yes (v := ?_) 7 rfl (by kernel_rfl) (by kernel_rfl) (by kernel_rfl) (fun _ _ _ h => h) (by rfl) (by assumption) ?_ ?_; rotate_left; focus ((intro w hSw); (try dsimp only at hSw); go_simp; (try with_reducible rfl)); (try simp only [Act.put, List.setIfInBounds_toArray, List.set_cons_zero, List.set_cons_succ]))
      (refine held_call 6 rfl (by kernel_rfl) (fun K hK => ?_); go_simp)
      go_at_call 10; refine (BK.out _ HD.hx).mono ?_; rintro e wq2 ⟨rfl, hbq⟩; have HD := HD.later hbq; have H9 := H9.below hbq; clear hbq
      (refine hK.out _ _ (⟨HD.h7.1, HD.h8.1, H9.1, HD.t.a.1, HD.t.b.1⟩) (fun hHeld => ?_); clear hK K; (try simp only [Act.put, List.setIfInBounds_toArray, List.set_cons_zero, List.set_cons_succ]))
      (refine held_call 8 rfl (by kernel_rfl) (fun K hK => ?_); go_simp)
      go_at_call 9; refine (RS2.out _ HD.hx.back HD.hy.back).mono ?_; rintro e wq3 ⟨rfl, hbq⟩; have HD := HD.later hbq; have H9 := H9.below hbq; clear hbq
      (refine hK.out _ _ (⟨HD.h7.1, HD.h8.1, H9.1, HD.t.a.1, HD.t.b.1⟩) (fun hHeld => ?_); clear hK K; (try simp only [Act.put, List.setIfInBounds_toArray, List.set_cons_zero, List.set_cons_succ]))
      (refine held_yes (v := ?_) 9 rfl (by kernel_rfl) (by kernel_rfl) (by kernel_rfl) (fun _ _ _ h => h) (by rfl) (by assumption) ?_ ?_; rotate_left; focus ((intro w hSw); (try dsimp only at hSw); go_simp; (try with_reducible rfl)); (try simp only [Act.put, List.setIfInBounds_toArray, List.set_cons_zero, List.set_cons_succ])); (refine held_yes (v := ?_) 10 rfl (by kernel_rfl) (by kernel_rfl) (by kernel_rfl) (fun _ _ _ h => h) (by rfl) (by assumption) ?_ ?_; rotate_left; focus ((intro w hSw); (try dsimp only at hSw); go_simp; (try with_reducible rfl)); (try simp only [Act.put, List.setIfInBounds_toArray, List.set_cons_zero, List.set_cons_succ])); (refine held_yes (v := ?_) 11 rfl (by kernel_rfl) (by kernel_rfl) (by kernel_rfl) (fun _ _ _ h => h) (by rfl) (by assumption) ?_ ?_; rotate_left; focus ((intro w hSw); (try dsimp only at hSw); go_simp; (try with_reducible rfl)); (try simp only [Act.put, List.setIfInBounds_toArray, List.set_cons_zero, List.set_cons_succ])); (refine held_yes (v := ?_) 12 rfl (by kernel_rfl) (by kernel_rfl) (by kernel_rfl) (fun _ _ _ h => h) (by rfl) (by assumption) ?_ ?_; rotate_left; focus ((intro w hSw); (try dsimp only at hSw); go_simp; (try with_reducible rfl)); (try simp only [Act.put, List.setIfInBounds_toArray, List.set_cons_zero, List.set_cons_succ])); (refine held_yes (v := ?_) 14 rfl (by kernel_rfl) (by kernel_rfl) (by kernel_rfl) (fun _ _ _ h => h) (by rfl) (by assumption) ?_ ?_; rotate_left; focus ((intro w hSw); (try dsimp only at hSw); go_simp; (try with_reducible rfl)); (try simp only [Act.put, List.setIfInBounds_toArray, List.set_cons_zero, List.set_cons_succ]))
      (refine held_call 13 rfl (by kernel_rfl) (fun K hK => ?_); go_simp)
      go_at_call 11; refine (EC.out _ HD.hx).mono ?_; rintro e wq4 ⟨rfl, hbq⟩; have HD := HD.later hbq; have H9 := H9.below hbq; clear hbq
      (refine hK.out _ _ (⟨HD.h7.1, HD.h8.1, H9.1, HD.t.a.1, HD.t.b.1⟩) (fun hHeld => ?_); clear hK K; (try simp only [Act.put, List.setIfInBounds_toArray, List.set_cons_zero, List.set_cons_succ]))
      (refine held_yes (v := ?_) 15 rfl (by kernel_rfl) (by kernel_rfl) (by kernel_rfl) (fun _ _ _ h => h) (by rfl) (by assumption) ?_ ?_; rotate_left; focus ((intro w hSw); (try dsimp only at hSw); go_simp; (try with_reducible rfl)); (try simp only [Act.put, List.setIfInBounds_toArray, List.set_cons_zero, List.set_cons_succ])); (refine held_yes (v := ?_) 16 rfl (by kernel_rfl) (by kernel_rfl) (by kernel_rfl) (fun _ _ _ h => h) (by rfl) (by assumption) ?_ ?_; rotate_left; focus ((intro w hSw); (try dsimp only at hSw); go_simp; (try with_reducible rfl)); (try simp only [Act.put, List.setIfInBounds_toArray, List.set_cons_zero, List.set_cons_succ])); (refine held_yes (v := ?_) 17 rfl (by kernel_rfl) (by kernel_rfl) (by kernel_rfl) (fun _ _ _ h => h) (by rfl) (by assumption) ?_ ?_; rotate_left; focus ((intro w hSw); (try dsimp only at hSw); go_simp; (try with_reducible rfl)); (try simp only [Act.put, List.setIfInBounds_toArray, List.set_cons_zero, List.set_cons_succ])); (refine held_yes (v := ?_) 18 rfl (by kernel_rfl) (by kernel_rfl) (by kernel_rfl) (fun _ _ _ h => h) (by rfl) (by assumption) ?_ ?_; rotate_left; focus ((intro w hSw); (try dsimp only at hSw); go_simp; (try with_reducible rfl)); (try simp only [Act.put, List.setIfInBounds_toArray, List.set_cons_zero, List.set_cons_succ])); (refine held_yes (v := ?_) 19 rfl (by kernel_rfl) (by kernel_rfl) (by kernel_rfl) (fun _ _ _ h => h) (by rfl) (by assumption) ?_ ?_; rotate_left; focus ((intro w hSw); (try dsimp only at hSw); go_simp; (try with_reducible rfl)); (try simp only [Act.put, List.setIfInBounds_toArray, List.set_cons_zero, List.set_cons_succ])); (refine held_yes (v := ?_) 21 rfl (by kernel_rfl) (by kernel_rfl) (by kernel_rfl) (fun _ _ _ h => h) (by rfl) (by assumption) ?_ ?_; rotate_left; focus ((intro w hSw); (try dsimp only at hSw); go_simp; (try with_reducible rfl)); (try simp only [Act.put, List.setIfInBounds_toArray, List.set_cons_zero, List.set_cons_succ]))
      (refine held_call 20 rfl (by kernel_rfl) (fun K hK => ?_); go_simp)
      go_at_call 12; refine (TG.out _ HD.t.low).mono ?_; rintro e wq5 ⟨rfl, hbq⟩; have HD := HD.later hbq; have H9 := H9.below hbq; clear hbq
      (refine hK.out _ _ (⟨HD.h7.1, HD.h8.1, H9.1, HD.t.a.1, HD.t.b.1⟩) (fun hHeld => ?_); clear hK K; (try simp only [Act.put, List.setIfInBounds_toArray, List.set_cons_zero, List.set_cons_succ]))
      (refine held_yes (v := ?_) 22 rfl (by kernel_rfl) (by kernel_rfl) (by kernel_rfl) (fun _ _ _ h => h) (by rfl) (by assumption) ?_ ?_; rotate_left; focus ((intro w hSw); (try dsimp only at hSw); go_simp; (try with_reducible rfl)); (try simp only [Act.put, List.setIfInBounds_toArray, List.set_cons_zero, List.set_cons_succ])); (refine held_yes (v := ?_) 23 rfl (by kernel_rfl) (by kernel_rfl) (by kernel_rfl) (fun _ _ _ h => h) (by rfl) (by assumption) ?_ ?_; rotate_left; focus ((intro w hSw); (try dsimp only at hSw); go_simp; (try with_reducible rfl)); (try simp only [Act.put, List.setIfInBounds_toArray, List.set_cons_zero, List.set_cons_succ]))
      refine wpAnyH_done (by kernel_rfl) ?_ _
      clear RS1 RS2 EC TG
      go_wp2_with fail
      skip
      refine wp_region_held_drew (S := (fun W => (∀ o, W.cell? ⟨b7, o, none⟩ = (#[.slice xa0 d.more.length xc0, .slice xa1 d.gone.length xc1, .slice xa2 d.grow.length xc2, .slice xa3 d.ungrow.length xc3, .slice xa4 d.shrink.length xc4, .slice xa5 d.unshrink.length xc5] : Array Value)[o]?) ∧ (∀ o, W.cell? ⟨b8, o, none⟩ = (#[.slice ya0 d.more.length yc0, .slice ya1 d.gone.length yc1, .slice ya2 d.grow.length yc2, .slice ya3 d.ungrow.length yc3, .slice ya4 d.shrink.length yc4, .slice ya5 d.unshrink.length yc5] : Array Value)[o]?) ∧ (∀ o, W.cell? ⟨b9, o, none⟩ = (#[.slice ya1 d.gone.length yc1, .slice ya0 d.more.length yc0, .slice ya3 d.ungrow.length yc3, .slice ya2 d.grow.length yc2, .slice ya5 d.unshrink.length yc5, .slice ya4 d.shrink.length yc4] : Array Value)[o]?) ∧ (∀ o, W.cell? ⟨w.heap.size + 2, o, none⟩ = (#[.slice ta0 l3.length tc0, .slice ta1 g3.length tc1, .slice ta2 h3.length tc2, .slice ta3 q3.length tc3] : Array Value)[o]?))) (by kernel_rfl) (by have HD := HD.later (below_drew (Below.refl _ _)); have H9 := H9.below (below_drew (Below.refl _ _)); exact (⟨HD.h7.1, HD.h8.1, H9.1, HD.t.c.1⟩)) (fun hHeld => ?_)
      have HD := HD.later (below_drew (Below.refl _ _))
      have H9 := H9.below (below_drew (Below.refl _ _))
      (refine held_yes (v := ?_) 0 rfl (by kernel_rfl) (by kernel_rfl) (by kernel_rfl) (fun _ _ _ h => h) (by rfl) (by assumption) ?_ ?_; rotate_left; focus ((intro w hSw); (try dsimp only at hSw); go_simp; (try with_reducible rfl)); (try simp only [Act.put, List.setIfInBounds_toArray, List.set_cons_zero, List.set_cons_succ])); (refine held_yes (v := ?_) 1 rfl (by kernel_rfl) (by kernel_rfl) (by kernel_rfl) (fun _ _ _ h => h) (by rfl) (by assumption) ?_ ?_; rotate_left; focus ((intro w hSw); (try dsimp only at hSw); go_simp; (try with_reducible rfl)); (try simp only [Act.put, List.setIfInBounds_toArray, List.set_cons_zero, List.set_cons_succ])); (refine held_yes (v := ?_) 3 rfl (by kernel_rfl) (by kernel_rfl) (by kernel_rfl) (fun _ _ _ h => h) (by rfl) (by assumption) ?_ ?_; rotate_left; focus ((intro w hSw); (try dsimp only at hSw); go_simp; (try with_reducible rfl)); (try simp only [Act.put, List.setIfInBounds_toArray, List.set_cons_zero, List.set_cons_succ])); (refine held_yes (v := ?_) 4 rfl (by kernel_rfl) (by kernel_rfl) (by kernel_rfl) (fun _ _ _ h => h) (by rfl) (by assumption) ?_ ?_; rotate_left; focus ((intro w hSw); (try dsimp only at hSw); go_simp; (try with_reducible rfl)); (try simp only [Act.put, List.setIfInBounds_toArray, List.set_cons_zero, List.set_cons_succ]))
      (refine held_call 2 rfl (by kernel_rfl) (fun K hK => ?_); go_simp)
      go_at_call 14; refine (AP.out _ _ _ _ _ _ _ HD.t.low HD.hx).mono ?_; rintro e wr1 ⟨r0, r1, r2, rfl, hr, hbq⟩; have HD := HD.later hbq; have H9 := H9.below hbq; obtain ⟨ra0, rc0, rfl⟩ := hr.r0.form; obtain ⟨ra1, rc1, rfl⟩ := hr.r1.form; obtain ⟨ra2, rc2, rfl⟩ := hr.r2.form; clear hbq
      (refine hK.out _ _ (⟨HD.h7.1, HD.h8.1, H9.1, HD.t.c.1⟩) (fun hHeld => ?_); clear hK K; (try simp only [Act.put, List.setIfInBounds_toArray, List.set_cons_zero, List.set_cons_succ]))
      (refine held_call 5 rfl (by kernel_rfl) (fun K hK => ?_); go_simp)
      go_at_call 15; refine (RA.out _ _ _ _ _ _ _ HD.t.low HD.hy).mono ?_; rintro e wr2 ⟨r0, r1, r2, rfl, hr2, hbq⟩; have HD := HD.later hbq; have H9 := H9.below hbq; have hr := hr.below hbq; obtain ⟨rb0, rd0, rfl⟩ := hr2.r0.form; obtain ⟨rb1, rd1, rfl⟩ := hr2.r1.form; obtain ⟨rb2, rd2, rfl⟩ := hr2.r2.form; clear hbq
      (refine hK.out _ _ (⟨HD.h7.1, HD.h8.1, H9.1, HD.t.c.1⟩) (fun hHeld => ?_); clear hK K; (try simp only [Act.put, List.setIfInBounds_toArray, List.set_cons_zero, List.set_cons_succ]))
      (refine held_call 6 rfl (by kernel_rfl) (fun K hK => ?_); go_simp)
      go_at_call 13; refine (SP.out _ _ _ _ _ _ _ HD.t.low hr hr2).mono ?_; rintro e wr3 ⟨rfl, hbq⟩; have HD := HD.later hbq; have H9 := H9.below hbq; clear hbq hr hr2
      (refine hK.out _ _ (⟨HD.h7.1, HD.h8.1, H9.1, HD.t.c.1⟩) (fun hHeld => ?_); clear hK K; (try simp only [Act.put, List.setIfInBounds_toArray, List.set_cons_zero, List.set_cons_succ]))
      clear AP RA SP
      (refine held_yes (v := ?_) 7 rfl (by kernel_rfl) (by kernel_rfl) (by kernel_rfl) (fun _ _ _ h => h) (by rfl) (by assumption) ?_ ?_; rotate_left; focus ((intro w hSw); (try dsimp only at hSw); go_simp; (try with_reducible rfl)); (try simp only [Act.put, List.setIfInBounds_toArray, List.set_cons_zero, List.set_cons_succ])); (refine held_yes (v := ?_) 8 rfl (by kernel_rfl) (by kernel_rfl) (by kernel_rfl) (fun _ _ _ h => h) (by rfl) (by assumption) ?_ ?_; rotate_left; focus ((intro w hSw); (try dsimp only at hSw); go_simp; (try with_reducible rfl)); (try simp only [Act.put, List.setIfInBounds_toArray, List.set_cons_zero, List.set_cons_succ])); (refine held_yes (v := ?_) 10 rfl (by kernel_rfl) (by kernel_rfl) (by kernel_rfl) (fun _ _ _ h => h) (by rfl) (by assumption) ?_ ?_; rotate_left; focus ((intro w hSw); (try dsimp only at hSw); go_simp; (try with_reducible rfl)); (try simp only [Act.put, List.setIfInBounds_toArray, List.set_cons_zero, List.set_cons_succ]))
      (refine held_call 9 rfl (by kernel_rfl) (fun K hK => ?_); go_simp)
      go_at_call 17; refine (LN1.out _ HD.hx).mono ?_; rintro e wr4 ⟨r0, rfl, hs1, hbq⟩; have HD := HD.later hbq; have H9 := H9.below hbq; obtain ⟨sa1, sc1, rfl⟩ := hs1.form; clear hbq
      (refine hK.out _ _ (⟨HD.h7.1, HD.h8.1, H9.1, HD.t.c.1⟩) (fun hHeld => ?_); clear hK K; (try simp only [Act.put, List.setIfInBounds_toArray, List.set_cons_zero, List.set_cons_succ]))
      (refine held_call 11 rfl (by kernel_rfl) (fun K hK => ?_); go_simp)
      go_at_call 18; refine (LN2.out _ HD.hy).mono ?_; rintro e wr5 ⟨r0, rfl, hs2, hbq⟩; have HD := HD.later hbq; have H9 := H9.below hbq; have hs1 := hs1.below hbq; obtain ⟨sa2, sc2, rfl⟩ := hs2.form; clear hbq
      (refine hK.out _ _ (⟨HD.h7.1, HD.h8.1, H9.1, HD.t.c.1⟩) (fun hHeld => ?_); clear hK K; (try simp only [Act.put, List.setIfInBounds_toArray, List.set_cons_zero, List.set_cons_succ]))
      (refine held_call 12 rfl (by kernel_rfl) (fun K hK => ?_); go_simp)
      go_at_call 16; refine (SM.out _ _ _ hs1.a hs2.a).mono ?_; rintro e wr6 ⟨rfl, hbq⟩; have HD := HD.later hbq; have H9 := H9.below hbq; clear hbq hs1 hs2
      (refine hK.out _ _ (⟨HD.h7.1, HD.h8.1, H9.1, HD.t.c.1⟩) (fun hHeld => ?_); clear hK K; (try simp only [Act.put, List.setIfInBounds_toArray, List.set_cons_zero, List.set_cons_succ]))
      clear LN1 LN2 SM
      (refine held_yes (v := ?_) 13 rfl (by kernel_rfl) (by kernel_rfl) (by kernel_rfl) (fun _ _ _ h => h) (by rfl) (by assumption) ?_ ?_; rotate_left; focus ((intro w hSw); (try dsimp only at hSw); go_simp; (try with_reducible rfl)); (try simp only [Act.put, List.setIfInBounds_toArray, List.set_cons_zero, List.set_cons_succ])); (refine held_yes (v := ?_) 14 rfl (by kernel_rfl) (by kernel_rfl) (by kernel_rfl) (fun _ _ _ h => h) (by rfl) (by assumption) ?_ ?_; rotate_left; focus ((intro w hSw); (try dsimp only at hSw); go_simp; (try with_reducible rfl)); (try simp only [Act.put, List.setIfInBounds_toArray, List.set_cons_zero, List.set_cons_succ])); (refine held_yes (v := ?_) 15 rfl (by kernel_rfl) (by kernel_rfl) (by kernel_rfl) (fun _ _ _ h => h) (by rfl) (by assumption) ?_ ?_; rotate_left; focus ((intro w hSw); (try dsimp only at hSw); go_simp; (try with_reducible rfl)); (try simp only [Act.put, List.setIfInBounds_toArray, List.set_cons_zero, List.set_cons_succ])); (refine held_yes (v := ?_) 16 rfl (by kernel_rfl) (by kernel_rfl) (by kernel_rfl) (fun _ _ _ h => h) (by rfl) (by assumption) ?_ ?_; rotate_left; focus ((intro w hSw); (try dsimp only at hSw); go_simp; (try with_reducible rfl)); (try simp only [Act.put, List.setIfInBounds_toArray, List.set_cons_zero, List.set_cons_succ])); (refine held_yes (v := ?_) 19 rfl (by kernel_rfl) (by kernel_rfl) (by kernel_rfl) (fun _ _ _ h => h) (by rfl) (by assumption) ?_ ?_; rotate_left; focus ((intro w hSw); (try dsimp only at hSw); go_simp; (try with_reducible rfl)); (try simp only [Act.put, List.setIfInBounds_toArray, List.set_cons_zero, List.set_cons_succ])); (refine held_yes (v := ?_) 20 rfl (by kernel_rfl) (by kernel_rfl) (by kernel_rfl) (fun _ _ _ h => h) (by rfl) (by assumption) ?_ ?_; rotate_left; focus ((intro w hSw); (try dsimp only at hSw); go_simp; (try with_reducible rfl)); (try simp only [Act.put, List.setIfInBounds_toArray, List.set_cons_zero, List.set_cons_succ]))
      (refine held_call 17 rfl (by kernel_rfl) (fun K hK => ?_); go_simp)
      go_at_call 10; refine (BK.out _ HD.hx).mono ?_; rintro e wr7 ⟨rfl, hbq⟩; have HD := HD.later hbq; have H9 := H9.below hbq; clear hbq
      (refine hK.out _ _ (⟨HD.h7.1, HD.h8.1, H9.1, HD.t.c.1⟩) (fun hHeld => ?_); clear hK K; (try simp only [Act.put, List.setIfInBounds_toArray, List.set_cons_zero, List.set_cons_succ]))
      (refine held_call 18 rfl (by kernel_rfl) (fun K hK => ?_); go_simp)
      go_at_call 19; refine (DS.out _ HD.hx HD.hx.back).mono ?_; rintro e wr8 ⟨rfl, hbq⟩; have HD := HD.later hbq; have H9 := H9.below hbq; clear hbq
      (refine hK.out _ _ (⟨HD.h7.1, HD.h8.1, H9.1, HD.t.c.1⟩) (fun hHeld => ?_); clear hK K; (try simp only [Act.put, List.setIfInBounds_toArray, List.set_cons_zero, List.set_cons_succ]))
      (refine held_call 21 rfl (by kernel_rfl) (fun K hK => ?_); go_simp)
      go_at_call 9; refine (RS3.out _ HD.hy HD.hy.back).mono ?_; rintro e wr9 ⟨rfl, hbq⟩; have HD := HD.later hbq; have H9 := H9.below hbq; clear hbq
      (refine hK.out _ _ (⟨HD.h7.1, HD.h8.1, H9.1, HD.t.c.1⟩) (fun hHeld => ?_); clear hK K; (try simp only [Act.put, List.setIfInBounds_toArray, List.set_cons_zero, List.set_cons_succ]))
      (refine held_yes (v := ?_) 22 rfl (by kernel_rfl) (by kernel_rfl) (by kernel_rfl) (fun _ _ _ h => h) (by rfl) (by assumption) ?_ ?_; rotate_left; focus ((intro w hSw); (try dsimp only at hSw); go_simp; (try with_reducible rfl)); (try simp only [Act.put, List.setIfInBounds_toArray, List.set_cons_zero, List.set_cons_succ])); (refine held_yes (v := ?_) 23 rfl (by kernel_rfl) (by kernel_rfl) (by kernel_rfl) (fun _ _ _ h => h) (by rfl) (by assumption) ?_ ?_; rotate_left; focus ((intro w hSw); (try dsimp only at hSw); go_simp; (try with_reducible rfl)); (try simp only [Act.put, List.setIfInBounds_toArray, List.set_cons_zero, List.set_cons_succ])); (refine held_yes (v := ?_) 24 rfl (by kernel_rfl) (by kernel_rfl) (by kernel_rfl) (fun _ _ _ h => h) (by rfl) (by assumption) ?_ ?_; rotate_left; focus ((intro w hSw); (try dsimp only at hSw); go_simp; (try with_reducible rfl)); (try simp only [Act.put, List.setIfInBounds_toArray, List.set_cons_zero, List.set_cons_succ]))
      (refine held_call 25 rfl (by kernel_rfl) (fun K hK => ?_); go_simp)
      go_at_call 6; refine (HL.out _).mono ?_; rintro e wr10 ⟨rfl, hbq⟩; have HD := HD.later hbq; have H9 := H9.below hbq; clear hbq
      (refine hK.out _ _ (⟨HD.h7.1, HD.h8.1, H9.1, HD.t.c.1⟩) (fun hHeld => ?_); clear hK K; (try simp only [Act.put, List.setIfInBounds_toArray, List.set_cons_zero, List.set_cons_succ]))
      (refine held_yes (v := ?_) 26 rfl (by kernel_rfl) (by kernel_rfl) (by kernel_rfl) (fun _ _ _ h => h) (by rfl) (by assumption) ?_ ?_; rotate_left; focus ((intro w hSw); (try dsimp only at hSw); go_simp; (try with_reducible rfl)); (try simp only [Act.put, List.setIfInBounds_toArray, List.set_cons_zero, List.set_cons_succ])); (refine held_yes (v := ?_) 27 rfl (by kernel_rfl) (by kernel_rfl) (by kernel_rfl) (fun _ _ _ h => h) (by rfl) (by assumption) ?_ ?_; rotate_left; focus ((intro w hSw); (try dsimp only at hSw); go_simp; (try with_reducible rfl)); (try simp only [Act.put, List.setIfInBounds_toArray, List.set_cons_zero, List.set_cons_succ]))
      refine wpAnyH_done (by kernel_rfl) ?_ _
      have HLOW := Lib.hid HD.t.low
      clear HD H9
      go_wp2
      go_ret
      exact ⟨rfl, HLOW.out⟩
end Go.Proofs.YtmpanikeeeoikaaGreat
