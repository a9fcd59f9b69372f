/- The statement DeltaBack: the walk of the law (printed by gen_law32b.py). -/
import Derived.Test.YtmpanikeeeoikaaGreatPart17
import Derived.Test.YtmpanikeeeoikaaGreatPart18
namespace Go.Proofs.YtmpanikeeeoikaaGreat
open Go.RowKit Go.Shelf

theorem hasR_app (l m : List Rl) (x : Rl) : hasR (l ++ m) x = (hasR l x || hasR m x) := by unfold hasR; rw [List.any_append]
/-- What is reached with more restrictions is reached with fewer. -/
theorem reach_mono {l m : List St} {g h g' h' : List Rl} (hr : reachS l (g' ++ g) (h' ++ h) m = true) : reachS l g h m = true := by
  rw [reach_iff] at *
  refine ⟨fun x hx => ⟨(hr.1 x hx).1, ?_⟩, fun x hx hh => hr.2 x hx (by rw [hasR_app, hh, Bool.or_true])⟩
  rcases (hr.1 x hx).2 with h1 | h1
  · exact .inl h1
  · rw [hasR_app, Bool.or_eq_false_iff] at h1
    exact .inr h1.2
theorem out_app (g g' : List Rl) : outR g (g' ++ g) = [] := by
  refine List.eq_nil_iff_forall_not_mem.2 fun x hx => ?_
  have := (out_memR g (g' ++ g) x).1 hx
  exact this.2 (List.mem_append_right _ this.1)
theorem tight_more (l : List St) (g h g' h' : List Rl) : (Dl.of l g h l (g' ++ g) (h' ++ h)).tight = true := by
  have e : Dl.of l g h l (g' ++ g) (h' ++ h) = ⟨[], [], outR (g' ++ g) g, [], outR (h' ++ h) h, []⟩ := by
    unfold Dl.of; rw [parts4, out_app, out_app]
  rw [e]; rfl
theorem none_self (l : List St) (g h : List Rl) : (Dl.of l g h l g h).none = true := by rw [Dl.of_self]; rfl
theorem Rows3.puts {w : World} {y0 y1 y2 : Value} {l : List St} {g h : List Rl} {b n : Nat} (r : Rows3 w y0 y1 y2 l g h) (vs : List Value) (hg : BlkS w b n) (ho : vs.length ≤ n) (hv : ∀ v ∈ vs, isSl v = true) : Rows3 (puts w b 0 vs) y0 y1 y2 l g h :=
  ⟨r.r0.puts (st_noSl _) vs 0 w hg (by omega) hv, r.r1.puts (rl_noSl _) vs 0 w hg (by omega) hv, r.r2.puts (rl_noSl _) vs 0 w hg (by omega) hv⟩
theorem Rows3.set {w : World} {y0 y1 y2 v : Value} {l : List St} {g h : List Rl} {b o n : Nat} (r : Rows3 w y0 y1 y2 l g h) (hg : BlkS w b n) : Rows3 (w.setCell ⟨b, o, none⟩ v) y0 y1 y2 l g h :=
  ⟨r.r0.set hg (st_noSl _), r.r1.set hg (rl_noSl _), r.r2.set hg (rl_noSl _)⟩
theorem SlA.puts {size n g m : Nat} {v : Value} {xs : List Value} (hx : ∀ u ∈ xs, isSl u = false) (vs : List Value) (w : World) (h : SlA w size v n xs) (hg : BlkS w g m) (ho : vs.length ≤ m) (hv : ∀ v ∈ vs, isSl v = true) : SlA (puts w g 0 vs) size v n xs := by
  rcases h with h | h
  · exact .inl (h.puts hx vs 0 w hg (by omega) hv)
  · exact .inr h
theorem SlA.set {size n g m o : Nat} {v x : Value} {xs : List Value} {w : World} (h : SlA w size v n xs) (hg : BlkS w g m) (hx : ∀ u ∈ xs, isSl u = false) : SlA (w.setCell ⟨g, o, none⟩ x) size v n xs := by
  rcases h with h | h
  · exact .inl (h.set hg hx)
  · exact .inr h
theorem DlAt.puts {w : World} {v0 v1 v2 v3 v4 v5 : Value} {d : Dl} {g m : Nat} (h : DlAt w v0 v1 v2 v3 v4 v5 d) (vs : List Value) (hg : BlkS w g m) (ho : vs.length ≤ m) (hv : ∀ v ∈ vs, isSl v = true) : DlAt (puts w g 0 vs) v0 v1 v2 v3 v4 v5 d :=
  ⟨h.a0.puts (st_noSl _) vs w hg ho hv, h.a1.puts (st_noSl _) vs w hg ho hv, h.a2.puts (rl_noSl _) vs w hg ho hv, h.a3.puts (rl_noSl _) vs w hg ho hv, h.a4.puts (rl_noSl _) vs w hg ho hv, h.a5.puts (rl_noSl _) vs w hg ho hv⟩
theorem DlAt.set {w : World} {v0 v1 v2 v3 v4 v5 x : Value} {d : Dl} {g m o : Nat} (h : DlAt w v0 v1 v2 v3 v4 v5 d) (hg : BlkS w g m) : DlAt (w.setCell ⟨g, o, none⟩ x) v0 v1 v2 v3 v4 v5 d :=
  ⟨h.a0.set hg (st_noSl _), h.a1.set hg (st_noSl _), h.a2.set hg (rl_noSl _), h.a3.set hg (rl_noSl _), h.a4.set hg (rl_noSl _), h.a5.set hg (rl_noSl _)⟩
theorem TwoAt.puts {w wx : World} {A B : Array Value} (h : TwoAt w A B wx) {g : Nat} (hg : w.heap.size + 1 < g) (vs : List Value) : TwoAt w A B (puts wx g 0 vs) :=
  ⟨h.a.puts_far (by omega) vs 0 wx, h.b.puts_far (by omega) vs 0 wx, below_puts (by omega) vs 0 wx h.low⟩
theorem TwoAt.set {w wx : World} {A B : Array Value} (h : TwoAt w A B wx) {g o : Nat} {v : Value} (hg : w.heap.size + 1 < g) : TwoAt w A B (wx.setCell ⟨g, o, none⟩ v) :=
  ⟨h.a.far (by omega), h.b.far (by omega), below_put h.low (by omega)⟩
theorem Blk.four {w : World} {g : Nat} {z0 z1 z2 z3 : Value} (h : Blk w g #[z0, z1, z2, z3]) (x0 x1 x2 x3 : Value) : Blk (puts w g 0 [x0, x1, x2, x3]) g #[x0, x1, x2, x3] := by
  have := (((h.put (o := 0) (v := x0) (by simp)).put (o := 1) (v := x1) (by simp)).put (o := 2) (v := x2) (by simp)).put (o := 3) (v := x3) (by simp)
  change Blk ((((w.setCell ⟨g, 0, none⟩ x0).setCell ⟨g, 1, none⟩ x1).setCell ⟨g, 2, none⟩ x2).setCell ⟨g, 3, none⟩ x3) g _
  simpa using this
/-- The law's variables, ahead of what it compares. -/
structure Bks (w : World) (A B : Array Value) (d : Dl) (b7 b8 b9 : Nat) (X R S : Array Value) (x0 x1 x2 x3 x4 x5 r0 r1 r2 s0 s1 s2 : Value) (l1 l2 : List St) (g1 h1 g2 h2 : List Rl) (wx : World) : Prop where
  t : TwoAt w A B wx
  h7 : Blk wx b7 X
  h8 : Blk wx b8 R
  h9 : Blk wx b9 S
  hx : DlAt wx x0 x1 x2 x3 x4 x5 d
  r : Rows3 wx r0 r1 r2 l2 g2 h2
  s : Rows3 wx s0 s1 s2 l1 g1 h1
section
variable {w wx w' : World} {A B X R S : Array Value} {d : Dl} {b7 b8 b9 : Nat} {x0 x1 x2 x3 x4 x5 r0 r1 r2 s0 s1 s2 : Value} {l1 l2 : List St} {g1 h1 g2 h2 : List Rl}
theorem Bks.later (h : Bks w A B d b7 b8 b9 X R S x0 x1 x2 x3 x4 x5 r0 r1 r2 s0 s1 s2 l1 l2 g1 h1 g2 h2 wx) (hb : Below wx.heap.size wx w') : Bks w A B d b7 b8 b9 X R S x0 x1 x2 x3 x4 x5 r0 r1 r2 s0 s1 s2 l1 l2 g1 h1 g2 h2 w' :=
  ⟨h.t.later hb, h.h7.below hb, h.h8.below hb, h.h9.below hb, h.hx.below hb, h.r.below hb, h.s.below hb⟩
theorem Bks.set8 {o n : Nat} {v : Value} (h : Bks w A B d b7 b8 b9 X R S x0 x1 x2 x3 x4 x5 r0 r1 r2 s0 s1 s2 l1 l2 g1 h1 g2 h2 wx) (hs : BlkS wx b8 n) (n1 : w.heap.size + 1 < b7) (n2 : b7 < b8) (n4 : ¬ b8 = b9) (ho : o < R.size) :
    Bks w A B d b7 b8 b9 X (R.setIfInBounds o v) S x0 x1 x2 x3 x4 x5 r0 r1 r2 s0 s1 s2 l1 l2 g1 h1 g2 h2 (wx.setCell ⟨b8, o, none⟩ v) :=
  ⟨h.t.set (by omega), h.h7.far (by omega), h.h8.put ho, h.h9.far n4, h.hx.set hs, h.r.set hs, h.s.set hs⟩
theorem Bks.set9 {o n : Nat} {v : Value} (h : Bks w A B d b7 b8 b9 X R S x0 x1 x2 x3 x4 x5 r0 r1 r2 s0 s1 s2 l1 l2 g1 h1 g2 h2 wx) (hs : BlkS wx b9 n) (n1 : w.heap.size + 1 < b7) (n2 : b7 < b9) (n4 : ¬ b8 = b9) (ho : o < S.size) :
    Bks w A B d b7 b8 b9 X R (S.setIfInBounds o v) x0 x1 x2 x3 x4 x5 r0 r1 r2 s0 s1 s2 l1 l2 g1 h1 g2 h2 (wx.setCell ⟨b9, o, none⟩ v) :=
  ⟨h.t.set (by omega), h.h7.far (by omega), h.h8.far (fun e => n4 e.symm), h.h9.put ho, h.hx.set hs, h.r.set hs, h.s.set hs⟩
theorem Bks.last8 {n : Nat} {y0 y1 y2 a v : Value} (h : Bks w A B d b7 b8 b9 X #[y0, y1, y2, a] S x0 x1 x2 x3 x4 x5 r0 r1 r2 s0 s1 s2 l1 l2 g1 h1 g2 h2 wx) (hs : BlkS wx b8 n) (n1 : w.heap.size + 1 < b7) (n2 : b7 < b8) (n4 : ¬ b8 = b9) :
    Bks w A B d b7 b8 b9 X #[y0, y1, y2, v] S x0 x1 x2 x3 x4 x5 r0 r1 r2 s0 s1 s2 l1 l2 g1 h1 g2 h2 (wx.setCell ⟨b8, 3, none⟩ v) := by
  have := h.set8 (o := 3) (v := v) hs n1 n2 n4 (by simp)
  simpa using this
theorem Bks.last9 {n : Nat} {y0 y1 y2 a v : Value} (h : Bks w A B d b7 b8 b9 X R #[y0, y1, y2, a] x0 x1 x2 x3 x4 x5 r0 r1 r2 s0 s1 s2 l1 l2 g1 h1 g2 h2 wx) (hs : BlkS wx b9 n) (n1 : w.heap.size + 1 < b7) (n2 : b7 < b9) (n4 : ¬ b8 = b9) :
    Bks w A B d b7 b8 b9 X R #[y0, y1, y2, v] x0 x1 x2 x3 x4 x5 r0 r1 r2 s0 s1 s2 l1 l2 g1 h1 g2 h2 (wx.setCell ⟨b9, 3, none⟩ v) := by
  have := h.set9 (o := 3) (v := v) hs n1 n2 n4 (by simp)
  simpa using this
theorem Bks.far {g o n : Nat} {v : Value} (h : Bks w A B d b7 b8 b9 X R S x0 x1 x2 x3 x4 x5 r0 r1 r2 s0 s1 s2 l1 l2 g1 h1 g2 h2 wx) (hs : BlkS wx g n) (n1 : w.heap.size + 1 < b7) (n2 : b7 < g) (n3 : b8 < g) (n4 : b9 < g) :
    Bks w A B d b7 b8 b9 X R S x0 x1 x2 x3 x4 x5 r0 r1 r2 s0 s1 s2 l1 l2 g1 h1 g2 h2 (wx.setCell ⟨g, o, none⟩ v) :=
  ⟨h.t.set (by omega), h.h7.far (by omega), h.h8.far (by omega), h.h9.far (by omega), h.hx.set hs, h.r.set hs, h.s.set hs⟩
end

set_option maxRecDepth 100000 in
set_option maxHeartbeats 64000000 in
theorem law32_DeltaBack (v0 v1 v2 v3 u0 u1 u2 u3 vc : Value) (l1 l2 m : List St) (g1 h1 g2 h2 : List Rl) (q1 q2 : List Qv) (w : World) (hp1 : PolAt w v0 v1 v2 v3 l1 g1 h1 q1) (hp2 : PolAt w u0 u1 u2 u3 l2 g2 h2 q2) (hc : SlA w 9 vc m.length (m.flatMap St.cells)) (hm : allLe m 9223372036854775807) :
    Calls Tryz.prog 4 #[pv v0 v1 v2 v3, pv u0 u1 u2 u3, vc] w fun e w' => e = .returned (.bool true) ∧ Below w.heap.size w w' := by
  have HL := Lib.hid (fun W => law32_lives W)
  have HP1 := Lib.hid hp1
  have HP2 := Lib.hid hp2
  have HC := Lib.hid hc
  have L1 := Lib.hid (fun W hb => law5_LightR v0 v1 v2 v3 l1 g1 h1 q1 W (hp1.below (w' := W) hb))
  have R1 := Lib.hid (fun W hb hl hg hh hq hl4 hq4 => ref5_RightF v0 v1 v2 v3 l1 g1 h1 q1 W (hp1.below (w' := W) hb) hl hg hh hq hl4 hq4)
  have L2 := Lib.hid (fun W hb => law5_LightR u0 u1 u2 u3 l2 g2 h2 q2 W (hp2.below (w' := W) hb))
  have R2 := Lib.hid (fun W hb hl hg hh hq hl4 hq4 => ref5_RightF u0 u1 u2 u3 l2 g2 h2 q2 W (hp2.below (w' := W) hb) hl hg hh hq hl4 hq4)
  have LC := Lib.hid (fun W hb => law10_Light vc m W (hc.below (w' := W) hb) hm)
  obtain ⟨va0, vc0, rfl⟩ := hp1.rs.form
  obtain ⟨va1, vc1, rfl⟩ := hp1.rg.form
  obtain ⟨va2, vc2, rfl⟩ := hp1.rh.form
  obtain ⟨va3, vc3, rfl⟩ := hp1.rq.form
  obtain ⟨ua0, uc0, rfl⟩ := hp2.rs.form
  obtain ⟨ua1, uc1, rfl⟩ := hp2.rg.form
  obtain ⟨ua2, uc2, rfl⟩ := hp2.rh.form
  obtain ⟨ua3, uc3, rfl⟩ := hp2.rq.form
  obtain ⟨ma, mc, rfl⟩ := hc.form
  have HT := Lib.hid (TwoAt.new w #[.slice va0 l1.length vc0, .slice va1 g1.length vc1, .slice va2 h1.length vc2, .slice va3 q1.length vc3] #[.slice ua0 l2.length uc0, .slice ua1 g2.length uc1, .slice ua2 h2.length uc2, .slice ua3 q2.length uc3] 26 26)
  clear hp1 hp2 hc hm
  go_enter Tryz.func4, Tryz.ntmps4
  go_wp2_with fail
  refine (L1.out _ HT.out.low).mono ?_
  rintro e wl1 ⟨⟨b, rfl, hl⟩, hb⟩
  have HT := Lib.hid (HT.out.later hb)
  have HLK := Lib.hid hl
  have HBK := Lib.hid hb
  clear hl hb L1
  cases b with
  | false =>
    go_wp2_with fail
    refine (HL.out _).mono ?_
    rintro e w6 ⟨rfl, hb6⟩
    have T6 := Lib.hid (HT.out.later hb6)
    clear hb6
    go_wp2
    go_ret
    exact ⟨rfl, T6.out.low⟩
  | true =>
  have HN1 := Lib.hid (HLK.out (by first | rfl | trivial))
  have HQ1 := Lib.hid (fun x hx => (HN1.out.1.2.2.2.2.2 x hx).below HBK.out)
  clear HLK HBK
  obtain ⟨cb, fb, zb⟩ := HT.out.b
  go_wp2_with fail
  refine (L2.out _ HT.out.low).mono ?_
  rintro e wl2 ⟨⟨b, rfl, hl⟩, hb⟩
  have HT := Lib.hid (HT.out.later hb)
  have HQ1 := Lib.hid (fun x hx => (HQ1.out x hx).below hb)
  have HLK := Lib.hid hl
  have HBK := Lib.hid hb
  clear hl hb L2 cb fb zb
  cases b with
  | false =>
    go_wp2_with fail
    refine (HL.out _).mono ?_
    rintro e w6 ⟨rfl, hb6⟩
    have T6 := Lib.hid (HT.out.later hb6)
    clear hb6
    go_wp2
    go_ret
    exact ⟨rfl, T6.out.low⟩
  | true =>
  have HN2 := Lib.hid (HLK.out (by first | rfl | trivial))
  have HQ2 := Lib.hid (fun x hx => (HN2.out.1.2.2.2.2.2 x hx).below HBK.out)
  clear HLK HBK
  have n10 : l1.length ≤ 30 := HN1.out.1.1
  have n11 : g1.length ≤ 30 := HN1.out.1.2.1
  have n12 : h1.length ≤ 30 := HN1.out.1.2.2.1
  have n13 : q1.length ≤ 30 := HN1.out.1.2.2.2.1
  have n20 : l2.length ≤ 30 := HN2.out.1.1
  have n21 : g2.length ≤ 30 := HN2.out.1.2.1
  have n22 : h2.length ≤ 30 := HN2.out.1.2.2.1
  have n23 : q2.length ≤ 30 := HN2.out.1.2.2.2.1
  obtain ⟨ca, fa, za⟩ := HT.out.a
  go_wp2_with fail
  refine (R1.out _ HT.out.low n10 n11 n12 n13 HN1.out.1.2.2.2.2.1 HQ1.out).mono ?_
  rintro e wr1 ⟨⟨b, rfl, hl⟩, hb⟩
  have HT := Lib.hid (HT.out.later hb)
  have HQ2 := Lib.hid (fun x hx => (HQ2.out x hx).below hb)
  have HLK := Lib.hid hl
  clear hl hb R1 HQ1 ca fa za
  cases b with
  | false =>
    go_wp2_with fail
    refine (HL.out _).mono ?_
    rintro e w6 ⟨rfl, hb6⟩
    have T6 := Lib.hid (HT.out.later hb6)
    clear hb6
    go_wp2
    go_ret
    exact ⟨rfl, T6.out.low⟩
  | true =>
  have HR1 := Lib.hid (HLK.out (by first | rfl | trivial))
  clear HLK
  obtain ⟨ca, fa, za⟩ := HT.out.b
  go_wp2_with fail
  refine (R2.out _ HT.out.low n20 n21 n22 n23 HN2.out.1.2.2.2.2.1 HQ2.out).mono ?_
  rintro e wr2 ⟨⟨b, rfl, hl⟩, hb⟩
  have HT := Lib.hid (HT.out.later hb)
  have HLK := Lib.hid hl
  clear hl hb R2 HQ2 ca fa za
  cases b with
  | false =>
    go_wp2_with fail
    refine (HL.out _).mono ?_
    rintro e w6 ⟨rfl, hb6⟩
    have T6 := Lib.hid (HT.out.later hb6)
    clear hb6
    go_wp2
    go_ret
    exact ⟨rfl, T6.out.low⟩
  | true =>
  have HR2 := Lib.hid (HLK.out (by first | rfl | trivial))
  clear HLK
  go_wp2_with fail
  refine (LC.out _ HT.out.low).mono ?_
  rintro e wlc ⟨b, rfl, hl, hb⟩
  have HT := Lib.hid (HT.out.later hb)
  have HLK := Lib.hid hl
  clear hl hb LC
  cases b with
  | false =>
    go_wp2_with fail
    refine (HL.out _).mono ?_
    rintro e w6 ⟨rfl, hb6⟩
    have T6 := Lib.hid (HT.out.later hb6)
    clear hb6
    go_wp2
    go_ret
    exact ⟨rfl, T6.out.low⟩
  | true =>
  have HM := Lib.hid (HLK.out (by first | rfl | trivial))
  clear HLK
  have lm4 : allLe m 4294967 := fun x hx => (HM.out.2 x hx).mono (by decide)
  have DLE := Lib.hid (Dl.of_le (l1 := l1) (l2 := l2) (g1 := g1) (h1 := h1) (g2 := g2) (h2 := h2) (k := 30) (m := 40) n10 n20 n11 n21 n12 n22 HN1.out.1.2.2.2.2.1 HN2.out.1.2.2.2.2.1 (fun x hx => HN1.out.2 x (List.mem_append_left _ hx)) (fun x hx => HN2.out.2 x (List.mem_append_left _ hx)) (fun x hx => HN1.out.2 x (List.mem_append_right _ hx)) (fun x hx => HN2.out.2 x (List.mem_append_right _ hx)))
  have DL3 := Lib.hid (DLE.out.mono (k' := 300) (m' := 4294967) (by decide) (by decide))
  have OF := Lib.hid (fun W (hb : Below w.heap.size w W) => delta_Of (.slice va0 l1.length vc0) (.slice va1 g1.length vc1) (.slice va2 h1.length vc2) (.slice va3 q1.length vc3) (.slice ua0 l2.length uc0) (.slice ua1 g2.length uc1) (.slice ua2 h2.length uc2) (.slice ua3 q2.length uc3) l1 l2 g1 h1 g2 h2 q1 q2 W (HP1.out.below hb) (HP2.out.below hb) (by omega) (by omega) (by omega) (by omega) (by omega) (by omega))
  have OF2 := Lib.hid (fun W (hb : Below w.heap.size w W) => delta_Of (.slice va0 l1.length vc0) (.slice va1 g1.length vc1) (.slice va2 h1.length vc2) (.slice va3 q1.length vc3) (.slice va0 l1.length vc0) (.slice va1 g1.length vc1) (.slice va2 h1.length vc2) (.slice va3 q1.length vc3) l1 l1 g1 h1 g1 h1 q1 q1 W (HP1.out.below hb) (HP1.out.below hb) (by omega) (by omega) (by omega) (by omega) (by omega) (by omega))
  have DLS := Lib.hid (Dl.of_le (l1 := l1) (l2 := l1) (g1 := g1) (h1 := h1) (g2 := g1) (h2 := h1) (k := 1000) (m := 40) (by omega) (by omega) (by omega) (by omega) (by omega) (by omega) HN1.out.1.2.2.2.2.1 HN1.out.1.2.2.2.2.1 (fun x hx => HN1.out.2 x (List.mem_append_left _ hx)) (fun x hx => HN1.out.2 x (List.mem_append_left _ hx)) (fun x hx => HN1.out.2 x (List.mem_append_right _ hx)) (fun x hx => HN1.out.2 x (List.mem_append_right _ hx)))
  have EC := Lib.hid (fun x0 x1 x2 x3 x4 x5 W (h : DlAt W x0 x1 x2 x3 x4 x5 (Dl.of l1 g1 h1 l1 g1 h1)) => none_self l1 g1 h1 ▸ delta_Empty x0 x1 x2 x3 x4 x5 _ 0 40 W h DLS.out)
  generalize Dl.of l1 g1 h1 l1 g1 h1 = dE at OF2 EC
  have A1 := Dl.apply_of l1 g1 h1 l2 g2 h2
  have A2 := Dl.apply_of l2 g2 h2 l1 g1 h1
  rw [← Dl.of_back l1 g1 h1 l2 g2 h2] at A2
  have e10 : ord l1 = l1 := HR1.out.2.1.symm
  have e11 : ordR g1 = g1 := HR1.out.2.2.1.symm
  have e12 : ordR h1 = h1 := HR1.out.2.2.2.symm
  have e20 : ord l2 = l2 := HR2.out.2.1.symm
  have e21 : ordR g2 = g2 := HR2.out.2.2.1.symm
  have e22 : ordR h2 = h2 := HR2.out.2.2.2.symm
  rw [e20, e21, e22] at A1
  rw [e10, e11, e12] at A2
  generalize Dl.of l1 g1 h1 l2 g2 h2 = d at *
  have AP1 := Lib.hid (fun x0 x1 x2 x3 x4 x5 W (hb : Below w.heap.size w W) (hd : DlAt W x0 x1 x2 x3 x4 x5 d) => delta_Apply (.slice va0 l1.length vc0) (.slice va1 g1.length vc1) (.slice va2 h1.length vc2) (.slice va3 q1.length vc3) x0 x1 x2 x3 x4 x5 l1 g1 h1 q1 d 4294967 W (HP1.out.below hb) hd (by omega) (by omega) (by omega) DL3.out)
  have AP2 := Lib.hid (fun x0 x1 x2 x3 x4 x5 W (hb : Below w.heap.size w W) (hd : DlAt W x0 x1 x2 x3 x4 x5 d.back) => delta_Apply (.slice ua0 l2.length uc0) (.slice ua1 g2.length uc1) (.slice ua2 h2.length uc2) (.slice ua3 q2.length uc3) x0 x1 x2 x3 x4 x5 l2 g2 h2 q2 d.back 4294967 W (HP2.out.below hb) hd (by omega) (by omega) (by omega) DL3.out.back)
  rw [A1.1, A1.2.1, A1.2.2] at AP1
  rw [A2.1, A2.2.1, A2.2.2] at AP2
  clear A1 A2 e10 e11 e12 e20 e21 e22 HR1 HR2 DLE DL3 DLS
  have TG := Lib.hid (fun gv hv W (hb : Below w.heap.size w W) (hg : Sl W 2 gv (g2 ++ g1).length ((g2 ++ g1).flatMap Rl.cells)) (hh : Sl W 2 hv (h2 ++ h1).length ((h2 ++ h1).flatMap Rl.cells)) => tight_more l1 g1 h1 g2 h2 ▸ delta_Tightens (.slice va0 l1.length vc0) (.slice va1 g1.length vc1) (.slice va2 h1.length vc2) (.slice va3 q1.length vc3) (.slice va0 l1.length vc0) gv hv (.slice va3 q1.length vc3) l1 l1 g1 h1 (g2 ++ g1) (h2 ++ h1) q1 q1 W (HP1.out.below hb)
    ⟨HP1.out.rs.below hb, hg.a, hh.a, HP1.out.rq.below hb, HP1.out.ls, fun x hx => (by rcases List.mem_append.1 hx with h | h; exact HP2.out.lg x h; exact HP1.out.lg x h), fun x hx => (by rcases List.mem_append.1 hx with h | h; exact HP2.out.lh x h; exact HP1.out.lh x h), fun x hx => (HP1.out.lq x hx).below hb⟩ (by omega) (by omega) (by omega) (by rw [List.length_append]; omega) (by omega) (by rw [List.length_append]; omega))
  have RC1 := Lib.hid (fun gv hv W (hb : Below w.heap.size w W) (hg : Sl W 2 gv (g2 ++ g1).length ((g2 ++ g1).flatMap Rl.cells)) (hh : Sl W 2 hv (h2 ++ h1).length ((h2 ++ h1).flatMap Rl.cells)) => ref10_Reaches (.slice va0 l1.length vc0) gv hv (.slice va3 q1.length vc3) (.slice ma m.length mc) l1 m (g2 ++ g1) (h2 ++ h1) q1 W
    ⟨HP1.out.rs.below hb, hg.a, hh.a, HP1.out.rq.below hb, HP1.out.ls, fun x hx => (by rcases List.mem_append.1 hx with h | h; exact HP2.out.lg x h; exact HP1.out.lg x h), fun x hx => (by rcases List.mem_append.1 hx with h | h; exact HP2.out.lh x h; exact HP1.out.lh x h), fun x hx => (HP1.out.lq x hx).below hb⟩ (HC.out.below hb) lm4)
  have RC2 := Lib.hid (fun W (hb : Below w.heap.size w W) => ref10_Reaches (.slice va0 l1.length vc0) (.slice va1 g1.length vc1) (.slice va2 h1.length vc2) (.slice va3 q1.length vc3) (.slice ma m.length mc) l1 m g1 h1 q1 W (HP1.out.below hb) (HC.out.below hb) lm4)
  have RM := Lib.hid (fun (h : reachS l1 (g2 ++ g1) (h2 ++ h1) m = true) => reach_mono h)
  generalize reachS l1 (g2 ++ g1) (h2 ++ h1) m = k1 at RC1 RM
  generalize reachS l1 g1 h1 m = k2 at RC2 RM
  have SX := Lib.hid (fun r0 r1 r2 W (hb : Below w.heap.size w W) (r : Rows3 W r0 r1 r2 l2 g2 h2) => ref5_SameT r0 r1 r2 (.slice ua0 l2.length uc0) (.slice ua1 g2.length uc1) (.slice ua2 h2.length uc2) (.slice ua3 q2.length uc3) l2 g2 h2 q2 W r.r0.a r.r1.a r.r2.a (HP2.out.rs.below hb) (HP2.out.rg.below hb) (HP2.out.rh.below hb) (HP2.out.rq.below hb) (fun x hx => (HP2.out.lq x hx).below hb))
  have SY := Lib.hid (fun r0 r1 r2 W (hb : Below w.heap.size w W) (r : Rows3 W r0 r1 r2 l1 g1 h1) => ref5_SameT r0 r1 r2 (.slice va0 l1.length vc0) (.slice va1 g1.length vc1) (.slice va2 h1.length vc2) (.slice va3 q1.length vc3) l1 g1 h1 q1 W r.r0.a r.r1.a r.r2.a (HP1.out.rs.below hb) (HP1.out.rg.below hb) (HP1.out.rh.below hb) (HP1.out.rq.below hb) (fun x hx => (HP1.out.lq x hx).below hb))
  clear HN1 HN2 HM lm4
  obtain ⟨ca, fa, za⟩ := HT.out.a
  obtain ⟨cb, fb, zb⟩ := HT.out.b
  go_wp2_with fail
  refine (OF.out _ HT.out.low).mono ?_
  rintro e wd ⟨z, rfl, ⟨z0, z1, z2, z3, z4, z5, rfl, hz⟩, hb⟩
  have HT := Lib.hid (HT.out.later hb)
  obtain ⟨xa0, xc0, rfl⟩ := hz.a0.form
  obtain ⟨xa1, xc1, rfl⟩ := hz.a1.form
  obtain ⟨xa2, xc2, rfl⟩ := hz.a2.form
  obtain ⟨xa3, xc3, rfl⟩ := hz.a3.form
  obtain ⟨xa4, xc4, rfl⟩ := hz.a4.form
  obtain ⟨xa5, xc5, rfl⟩ := hz.a5.form
  have HTD := HT
  have HX := Lib.hid hz
  clear hz hb OF ca fa za cb fb zb
  have HT := Lib.hid (HT.out.alloc (.cells #[.slice xa0 d.more.length xc0, .slice xa1 d.gone.length xc1, .slice xa2 d.grow.length xc2, .slice xa3 d.ungrow.length xc3, .slice xa4 d.shrink.length xc4, .slice xa5 d.unshrink.length xc5] 30))
  have H7 := Lib.hid (Blk.new wd #[.slice xa0 d.more.length xc0, .slice xa1 d.gone.length xc1, .slice xa2 d.grow.length xc2, .slice xa3 d.ungrow.length xc3, .slice xa4 d.shrink.length xc4, .slice xa5 d.unshrink.length xc5] 30)
  have HX := Lib.hid (HX.out.below ((Below.refl _ _).alloc (Nat.le_refl _) (.cells #[.slice xa0 d.more.length xc0, .slice xa1 d.gone.length xc1, .slice xa2 d.grow.length xc2, .slice xa3 d.ungrow.length xc3, .slice xa4 d.shrink.length xc4, .slice xa5 d.unshrink.length xc5] 30)))
  obtain ⟨b7, hb7⟩ : ∃ b, b = wd.heap.size := ⟨_, rfl⟩
  have lo7 : w.heap.size + 1 < wd.heap.size := HTD.out.b.2.2
  go_upto_region 5 with fail
  obtain ⟨w4, hw4⟩ : ∃ W, W = wd.alloc (.cells #[.slice xa0 d.more.length xc0, .slice xa1 d.gone.length xc1, .slice xa2 d.grow.length xc2, .slice xa3 d.ungrow.length xc3, .slice xa4 d.shrink.length xc4, .slice xa5 d.unshrink.length xc5] 30) := ⟨_, rfl⟩
  rw [← hw4] at HT H7 HX ⊢
  rw [← hb7] at H7 lo7 ⊢
  clear hw4 hb7 HTD
  go_cut [8, 9] (fun s8 s9 wx => ∃ (b8 b9 : Nat) (ra0 : Option Addr) (rc0 : Nat) (sa0 : Option Addr) (sc0 : Nat) (ra1 : Option Addr) (rc1 : Nat) (sa1 : Option Addr) (sc1 : Nat) (ra2 : Option Addr) (rc2 : Nat) (sa2 : Option Addr) (sc2 : Nat), s8 = .pointer (some ⟨b8, 0, none⟩) ∧ s9 = .pointer (some ⟨b9, 0, none⟩) ∧ b7 < b8 ∧ b7 < b9 ∧ ¬ b8 = b9 ∧ Hid (Bks w #[.slice va0 l1.length vc0, .slice va1 g1.length vc1, .slice va2 h1.length vc2, .slice va3 q1.length vc3] #[.slice ua0 l2.length uc0, .slice ua1 g2.length uc1, .slice ua2 h2.length uc2, .slice ua3 q2.length uc3] d b7 b8 b9 #[.slice xa0 d.more.length xc0, .slice xa1 d.gone.length xc1, .slice xa2 d.grow.length xc2, .slice xa3 d.ungrow.length xc3, .slice xa4 d.shrink.length xc4, .slice xa5 d.unshrink.length xc5] #[.slice ra0 l2.length rc0, .slice ra1 g2.length rc1, .slice ra2 h2.length rc2, .slice va3 q1.length vc3] #[.slice sa0 l1.length sc0, .slice sa1 g1.length sc1, .slice sa2 h1.length sc2, .slice ua3 q2.length uc3] (.slice xa0 d.more.length xc0) (.slice xa1 d.gone.length xc1) (.slice xa2 d.grow.length xc2) (.slice xa3 d.ungrow.length xc3) (.slice xa4 d.shrink.length xc4) (.slice xa5 d.unshrink.length xc5) (.slice ra0 l2.length rc0) (.slice ra1 g2.length rc1) (.slice ra2 h2.length rc2) (.slice sa0 l1.length sc0) (.slice sa1 g1.length sc1) (.slice sa2 h1.length sc2) l1 l2 g1 h1 g2 h2 wx))
  case first =>
    clear TG RC1 RC2 RM SX SY OF2 EC HL HP1 HP2 HC
    have HT := HT.out
    have H7 := H7.out
    have HX := HX.out
    have BK := Lib.hid (fun W (hx : DlAt W (.slice xa0 d.more.length xc0) (.slice xa1 d.gone.length xc1) (.slice xa2 d.grow.length xc2) (.slice xa3 d.ungrow.length xc3) (.slice xa4 d.shrink.length xc4) (.slice xa5 d.unshrink.length xc5) d) => delta_Back (.slice xa0 d.more.length xc0) (.slice xa1 d.gone.length xc1) (.slice xa2 d.grow.length xc2) (.slice xa3 d.ungrow.length xc3) (.slice xa4 d.shrink.length xc4) (.slice xa5 d.unshrink.length xc5) d W hx)
    refine wp_region_held_drew (S := (fun W => (∀ o, W.cell? ⟨w.heap.size, o, none⟩ = (#[.slice va0 l1.length vc0, .slice va1 g1.length vc1, .slice va2 h1.length vc2, .slice va3 q1.length vc3] : Array Value)[o]?) ∧ (∀ o, W.cell? ⟨w.heap.size + 1, o, none⟩ = (#[.slice ua0 l2.length uc0, .slice ua1 g2.length uc1, .slice ua2 h2.length uc2, .slice ua3 q2.length uc3] : Array Value)[o]?) ∧ (∀ o, W.cell? ⟨b7, o, none⟩ = (#[.slice xa0 d.more.length xc0, .slice xa1 d.gone.length xc1, .slice xa2 d.grow.length xc2, .slice xa3 d.ungrow.length xc3, .slice xa4 d.shrink.length xc4, .slice xa5 d.unshrink.length xc5] : Array Value)[o]?))) (by kernel_rfl) ⟨HT.drew.a.1, HT.drew.b.1, (H7.below (below_drew (Below.refl _ _))).1⟩ (fun hHeld => ?_)
    have HX := HX.below (below_drew (Below.refl _ _))
    have H7 := H7.below (below_drew (Below.refl _ _))
    have HT := HT.drew
    obtain ⟨wk, hwk⟩ : ∃ W, W = w4.drew := ⟨_, rfl⟩
    rw [← hwk] at HT HX H7 hHeld ⊢
    clear hwk
    (refine held_yes (v := ?_) 0 rfl (by kernel_rfl) (by kernel_rfl) (by kernel_rfl) (fun _ _ _ h => h) (by rfl) (by assumption) ?_ ?_; rotate_left; focus ((intro w hSw); (try dsimp only at hSw); go_simp; (try with_reducible rfl)); (try simp only [Act.put, List.setIfInBounds_toArray, List.set_cons_zero, List.set_cons_succ])); (refine held_yes (v := ?_) 1 rfl (by kernel_rfl) (by kernel_rfl) (by kernel_rfl) (fun _ _ _ h => h) (by rfl) (by assumption) ?_ ?_; rotate_left; focus ((intro w hSw); (try dsimp only at hSw); go_simp; (try with_reducible rfl)); (try simp only [Act.put, List.setIfInBounds_toArray, List.set_cons_zero, List.set_cons_succ])); (refine held_yes (v := ?_) 3 rfl (by kernel_rfl) (by kernel_rfl) (by kernel_rfl) (fun _ _ _ h => h) (by rfl) (by assumption) ?_ ?_; rotate_left; focus ((intro w hSw); (try dsimp only at hSw); go_simp; (try with_reducible rfl)); (try simp only [Act.put, List.setIfInBounds_toArray, List.set_cons_zero, List.set_cons_succ])); (refine held_yes (v := ?_) 4 rfl (by kernel_rfl) (by kernel_rfl) (by kernel_rfl) (fun _ _ _ h => h) (by rfl) (by assumption) ?_ ?_; rotate_left; focus ((intro w hSw); (try dsimp only at hSw); go_simp; (try with_reducible rfl)); (try simp only [Act.put, List.setIfInBounds_toArray, List.set_cons_zero, List.set_cons_succ]))
    refine wpAnyH_ready (rs := [2, 7, 8]) (by kernel_rfl) (by simp) (AllReadyH.cons rfl (fun K hK => ?_) (AllReadyH.cons rfl (fun K hK => ?_) (AllReadyH.cons rfl (fun K hK => ?_) AllReadyH.nil)))
    · go_simp
      go_at_call 14; refine (AP1.out _ _ _ _ _ _ _ HT.low HX).mono ?_; rintro e wk1 ⟨y0, y1, y2, rfl, hy, hbq⟩
      obtain ⟨ra0, rc0, rfl⟩ := hy.r0.form
      obtain ⟨ra1, rc1, rfl⟩ := hy.r1.form
      obtain ⟨ra2, rc2, rfl⟩ := hy.r2.form
      have HX := HX.below hbq
      have H7 := H7.below hbq
      have HT := HT.later hbq
      have HR := hy
      clear hy
      clear hbq
      (refine hK.out _ _ (⟨HT.a.1, HT.b.1, H7.1⟩) (fun hHeld => ?_); clear hK K; (try simp only [Act.put, List.setIfInBounds_toArray, List.set_cons_zero, List.set_cons_succ]))
      refine wpAnyH_ready (rs := [5, 7, 8]) (by kernel_rfl) (by simp) (AllReadyH.cons rfl (fun K hK => ?_) (AllReadyH.cons rfl (fun K hK => ?_) (AllReadyH.cons rfl (fun K hK => ?_) AllReadyH.nil)))
      · go_simp
        go_at_call 10; refine (BK.out _ HX).mono ?_; rintro e wk2 ⟨rfl, hbq⟩
        have HX := HX.below hbq
        have H7 := H7.below hbq
        have HR := HR.below hbq
        have HT := HT.later hbq
        clear hbq
        (refine hK.out _ _ (⟨HT.a.1, HT.b.1, H7.1⟩) (fun hHeld => ?_); clear hK K; (try simp only [Act.put, List.setIfInBounds_toArray, List.set_cons_zero, List.set_cons_succ]))
        refine wpAnyH_ready (rs := [6, 7, 8]) (by kernel_rfl) (by simp) (AllReadyH.cons rfl (fun K hK => ?_) (AllReadyH.cons rfl (fun K hK => ?_) (AllReadyH.cons rfl (fun K hK => ?_) AllReadyH.nil)))
        · go_simp
          go_at_call 14; refine (AP2.out _ _ _ _ _ _ _ HT.low HX.back).mono ?_; rintro e wk3 ⟨y0, y1, y2, rfl, hy, hbq⟩
          obtain ⟨sa0, sc0, rfl⟩ := hy.r0.form
          obtain ⟨sa1, sc1, rfl⟩ := hy.r1.form
          obtain ⟨sa2, sc2, rfl⟩ := hy.r2.form
          have HX := HX.below hbq
          have H7 := H7.below hbq
          have HR := HR.below hbq
          have HT := HT.later hbq
          have HS := hy
          clear hy
          clear hbq
          (refine hK.out _ _ (⟨HT.a.1, HT.b.1, H7.1⟩) (fun hHeld => ?_); clear hK K; (try simp only [Act.put, List.setIfInBounds_toArray, List.set_cons_zero, List.set_cons_succ]))
          refine wpAnyH_ready (rs := [7, 8]) (by kernel_rfl) (by simp) (AllReadyH.cons rfl (fun K hK => ?_) (AllReadyH.cons rfl (fun K hK => ?_) AllReadyH.nil))
          · go_simp
            obtain ⟨b8, hb8⟩ : ∃ b, b = wk3.heap.size := ⟨_, rfl⟩
            obtain ⟨wk4, hwn⟩ : ∃ V, V = wk3.alloc (.cells #[.slice none 0 0, .slice none 0 0, .slice none 0 0, .slice none 0 0] 26) := ⟨_, rfl⟩
            rw [← hwn, ← hb8]
            have hbq : Below wk3.heap.size wk3 wk4 := by rw [hwn]; exact (Below.refl _ _).alloc (Nat.le_refl _) _
            have H8 : Blk wk4 b8 #[.slice none 0 0, .slice none 0 0, .slice none 0 0, .slice none 0 0] := by rw [hwn, hb8]; exact Blk.new _ _ _
            have lb8 : b7 < b8 := by rw [hb8]; exact H7.2.2
            have HX := HX.below hbq
            have H7 := H7.below hbq
            have HR := HR.below hbq
            have HS := HS.below hbq
            have HT := HT.later hbq
            clear hbq hwn hb8
            (refine hK.out _ _ (⟨HT.a.1, HT.b.1, H7.1⟩) (fun hHeld => ?_); clear hK K; (try simp only [Act.put, List.setIfInBounds_toArray, List.set_cons_zero, List.set_cons_succ]))
            (refine held_call 8 rfl (by kernel_rfl) (fun K hK => ?_); go_simp)
            obtain ⟨b9, hb9⟩ : ∃ b, b = wk4.heap.size := ⟨_, rfl⟩
            obtain ⟨wk5, hwn⟩ : ∃ V, V = wk4.alloc (.cells #[.slice none 0 0, .slice none 0 0, .slice none 0 0, .slice none 0 0] 26) := ⟨_, rfl⟩
            rw [← hwn, ← hb9]
            have hbq : Below wk4.heap.size wk4 wk5 := by rw [hwn]; exact (Below.refl _ _).alloc (Nat.le_refl _) _
            have H9 : Blk wk5 b9 #[.slice none 0 0, .slice none 0 0, .slice none 0 0, .slice none 0 0] := by rw [hwn, hb9]; exact Blk.new _ _ _
            have lb9 : b7 < b9 := by rw [hb9]; exact H7.2.2
            have hne : b8 < b9 := by rw [hb9]; exact H8.2.2
            have HX := HX.below hbq
            have H7 := H7.below hbq
            have HR := HR.below hbq
            have HS := HS.below hbq
            have H8 := H8.below hbq
            have HT := HT.later hbq
            clear hbq hwn hb9
            (refine hK.out _ _ (⟨HT.a.1, HT.b.1, H7.1⟩) (fun hHeld => ?_); clear hK K; (try simp only [Act.put, List.setIfInBounds_toArray, List.set_cons_zero, List.set_cons_succ]))
            have Hc := H8
            obtain ⟨cs, fs, zs⟩ := Hc
            (refine held_call 9 rfl (by kernel_rfl) (fun K hK => ?_); go_simp)
            clear cs fs zs
            obtain ⟨wn, hwn⟩ : ∃ W, W = puts wk5 b8 0 [.slice ra0 l2.length rc0, .slice ra1 g2.length rc1, .slice ra2 h2.length rc2, .slice va3 q1.length vc3] := ⟨_, rfl⟩
            have hch : ((((wk5.setCell ⟨b8, 0, none⟩ (.slice ra0 l2.length rc0)).setCell ⟨b8, 1, none⟩ (.slice ra1 g2.length rc1)).setCell ⟨b8, 2, none⟩ (.slice ra2 h2.length rc2)).setCell ⟨b8, 3, none⟩ (.slice va3 q1.length vc3)) = wn := hwn.symm
            rw [hch]
            clear hch
            have HBS : BlkS wk5 b8 4 := ⟨_, H8, rfl, by simp [isSl]⟩
            have HT := HT.puts (g := b8) (by omega) [.slice ra0 l2.length rc0, .slice ra1 g2.length rc1, .slice ra2 h2.length rc2, .slice va3 q1.length vc3]
            have HX := HX.puts [.slice ra0 l2.length rc0, .slice ra1 g2.length rc1, .slice ra2 h2.length rc2, .slice va3 q1.length vc3] HBS (by simp) (by simp [isSl])
            have HR := HR.puts [.slice ra0 l2.length rc0, .slice ra1 g2.length rc1, .slice ra2 h2.length rc2, .slice va3 q1.length vc3] HBS (by simp) (by simp [isSl])
            have HS := HS.puts [.slice ra0 l2.length rc0, .slice ra1 g2.length rc1, .slice ra2 h2.length rc2, .slice va3 q1.length vc3] HBS (by simp) (by simp [isSl])
            have H7 := H7.puts_far (g := b8) (by omega) [.slice ra0 l2.length rc0, .slice ra1 g2.length rc1, .slice ra2 h2.length rc2, .slice va3 q1.length vc3] 0 wk5
            have H8 := H8.four (.slice ra0 l2.length rc0) (.slice ra1 g2.length rc1) (.slice ra2 h2.length rc2) (.slice va3 q1.length vc3)
            have H9 := H9.puts_far (g := b8) (by omega) [.slice ra0 l2.length rc0, .slice ra1 g2.length rc1, .slice ra2 h2.length rc2, .slice va3 q1.length vc3] 0 wk5
            rw [← hwn] at HT HX HR HS H7 H8 H9
            clear hwn HBS
            (refine hK.out _ _ (⟨HT.a.1, HT.b.1, H7.1⟩) (fun hHeld => ?_); clear hK K; (try simp only [Act.put, List.setIfInBounds_toArray, List.set_cons_zero, List.set_cons_succ]))
            generalize wn = wn8 at *
            have Hc := H9
            obtain ⟨cs, fs, zs⟩ := Hc
            (refine held_call 10 rfl (by kernel_rfl) (fun K hK => ?_); go_simp)
            clear cs fs zs
            obtain ⟨wn, hwn⟩ : ∃ W, W = puts wn8 b9 0 [.slice sa0 l1.length sc0, .slice sa1 g1.length sc1, .slice sa2 h1.length sc2, .slice ua3 q2.length uc3] := ⟨_, rfl⟩
            have hch : ((((wn8.setCell ⟨b9, 0, none⟩ (.slice sa0 l1.length sc0)).setCell ⟨b9, 1, none⟩ (.slice sa1 g1.length sc1)).setCell ⟨b9, 2, none⟩ (.slice sa2 h1.length sc2)).setCell ⟨b9, 3, none⟩ (.slice ua3 q2.length uc3)) = wn := hwn.symm
            rw [hch]
            clear hch
            have HBS : BlkS wn8 b9 4 := ⟨_, H9, rfl, by simp [isSl]⟩
            have HT := HT.puts (g := b9) (by omega) [.slice sa0 l1.length sc0, .slice sa1 g1.length sc1, .slice sa2 h1.length sc2, .slice ua3 q2.length uc3]
            have HX := HX.puts [.slice sa0 l1.length sc0, .slice sa1 g1.length sc1, .slice sa2 h1.length sc2, .slice ua3 q2.length uc3] HBS (by simp) (by simp [isSl])
            have HR := HR.puts [.slice sa0 l1.length sc0, .slice sa1 g1.length sc1, .slice sa2 h1.length sc2, .slice ua3 q2.length uc3] HBS (by simp) (by simp [isSl])
            have HS := HS.puts [.slice sa0 l1.length sc0, .slice sa1 g1.length sc1, .slice sa2 h1.length sc2, .slice ua3 q2.length uc3] HBS (by simp) (by simp [isSl])
            have H7 := H7.puts_far (g := b9) (by omega) [.slice sa0 l1.length sc0, .slice sa1 g1.length sc1, .slice sa2 h1.length sc2, .slice ua3 q2.length uc3] 0 wn8
            have H9 := H9.four (.slice sa0 l1.length sc0) (.slice sa1 g1.length sc1) (.slice sa2 h1.length sc2) (.slice ua3 q2.length uc3)
            have H8 := H8.puts_far (g := b9) (by omega) [.slice sa0 l1.length sc0, .slice sa1 g1.length sc1, .slice sa2 h1.length sc2, .slice ua3 q2.length uc3] 0 wn8
            rw [← hwn] at HT HX HR HS H7 H8 H9
            clear hwn HBS
            (refine hK.out _ _ (⟨HT.a.1, HT.b.1, H7.1⟩) (fun hHeld => ?_); clear hK K; (try simp only [Act.put, List.setIfInBounds_toArray, List.set_cons_zero, List.set_cons_succ]))
            refine wpAnyH_done (by kernel_rfl) ?_ _
            go_wp2_with fail
            go_meet
            exact ⟨b8, b9, ra0, rc0, sa0, sc0, ra1, rc1, sa1, sc1, ra2, rc2, sa2, sc2, rfl, rfl, by omega, by omega, by omega, Lib.hid ⟨HT, H7, H8, H9, HX, HR, HS⟩⟩
          · go_simp
            obtain ⟨b9, hb9⟩ : ∃ b, b = wk3.heap.size := ⟨_, rfl⟩
            obtain ⟨wk4, hwn⟩ : ∃ V, V = wk3.alloc (.cells #[.slice none 0 0, .slice none 0 0, .slice none 0 0, .slice none 0 0] 26) := ⟨_, rfl⟩
            rw [← hwn, ← hb9]
            have hbq : Below wk3.heap.size wk3 wk4 := by rw [hwn]; exact (Below.refl _ _).alloc (Nat.le_refl _) _
            have H9 : Blk wk4 b9 #[.slice none 0 0, .slice none 0 0, .slice none 0 0, .slice none 0 0] := by rw [hwn, hb9]; exact Blk.new _ _ _
            have lb9 : b7 < b9 := by rw [hb9]; exact H7.2.2
            have HX := HX.below hbq
            have H7 := H7.below hbq
            have HR := HR.below hbq
            have HS := HS.below hbq
            have HT := HT.later hbq
            clear hbq hwn hb9
            (refine hK.out _ _ (⟨HT.a.1, HT.b.1, H7.1⟩) (fun hHeld => ?_); clear hK K; (try simp only [Act.put, List.setIfInBounds_toArray, List.set_cons_zero, List.set_cons_succ]))
            (refine held_call 7 rfl (by kernel_rfl) (fun K hK => ?_); go_simp)
            obtain ⟨b8, hb8⟩ : ∃ b, b = wk4.heap.size := ⟨_, rfl⟩
            obtain ⟨wk5, hwn⟩ : ∃ V, V = wk4.alloc (.cells #[.slice none 0 0, .slice none 0 0, .slice none 0 0, .slice none 0 0] 26) := ⟨_, rfl⟩
            rw [← hwn, ← hb8]
            have hbq : Below wk4.heap.size wk4 wk5 := by rw [hwn]; exact (Below.refl _ _).alloc (Nat.le_refl _) _
            have H8 : Blk wk5 b8 #[.slice none 0 0, .slice none 0 0, .slice none 0 0, .slice none 0 0] := by rw [hwn, hb8]; exact Blk.new _ _ _
            have lb8 : b7 < b8 := by rw [hb8]; exact H7.2.2
            have hne : b9 < b8 := by rw [hb8]; exact H9.2.2
            have HX := HX.below hbq
            have H7 := H7.below hbq
            have HR := HR.below hbq
            have HS := HS.below hbq
            have H9 := H9.below hbq
            have HT := HT.later hbq
            clear hbq hwn hb8
            (refine hK.out _ _ (⟨HT.a.1, HT.b.1, H7.1⟩) (fun hHeld => ?_); clear hK K; (try simp only [Act.put, List.setIfInBounds_toArray, List.set_cons_zero, List.set_cons_succ]))
            have Hc := H8
            obtain ⟨cs, fs, zs⟩ := Hc
            (refine held_call 9 rfl (by kernel_rfl) (fun K hK => ?_); go_simp)
            clear cs fs zs
            obtain ⟨wn, hwn⟩ : ∃ W, W = puts wk5 b8 0 [.slice ra0 l2.length rc0, .slice ra1 g2.length rc1, .slice ra2 h2.length rc2, .slice va3 q1.length vc3] := ⟨_, rfl⟩
            have hch : ((((wk5.setCell ⟨b8, 0, none⟩ (.slice ra0 l2.length rc0)).setCell ⟨b8, 1, none⟩ (.slice ra1 g2.length rc1)).setCell ⟨b8, 2, none⟩ (.slice ra2 h2.length rc2)).setCell ⟨b8, 3, none⟩ (.slice va3 q1.length vc3)) = wn := hwn.symm
            rw [hch]
            clear hch
            have HBS : BlkS wk5 b8 4 := ⟨_, H8, rfl, by simp [isSl]⟩
            have HT := HT.puts (g := b8) (by omega) [.slice ra0 l2.length rc0, .slice ra1 g2.length rc1, .slice ra2 h2.length rc2, .slice va3 q1.length vc3]
            have HX := HX.puts [.slice ra0 l2.length rc0, .slice ra1 g2.length rc1, .slice ra2 h2.length rc2, .slice va3 q1.length vc3] HBS (by simp) (by simp [isSl])
            have HR := HR.puts [.slice ra0 l2.length rc0, .slice ra1 g2.length rc1, .slice ra2 h2.length rc2, .slice va3 q1.length vc3] HBS (by simp) (by simp [isSl])
            have HS := HS.puts [.slice ra0 l2.length rc0, .slice ra1 g2.length rc1, .slice ra2 h2.length rc2, .slice va3 q1.length vc3] HBS (by simp) (by simp [isSl])
            have H7 := H7.puts_far (g := b8) (by omega) [.slice ra0 l2.length rc0, .slice ra1 g2.length rc1, .slice ra2 h2.length rc2, .slice va3 q1.length vc3] 0 wk5
            have H8 := H8.four (.slice ra0 l2.length rc0) (.slice ra1 g2.length rc1) (.slice ra2 h2.length rc2) (.slice va3 q1.length vc3)
            have H9 := H9.puts_far (g := b8) (by omega) [.slice ra0 l2.length rc0, .slice ra1 g2.length rc1, .slice ra2 h2.length rc2, .slice va3 q1.length vc3] 0 wk5
            rw [← hwn] at HT HX HR HS H7 H8 H9
            clear hwn HBS
            (refine hK.out _ _ (⟨HT.a.1, HT.b.1, H7.1⟩) (fun hHeld => ?_); clear hK K; (try simp only [Act.put, List.setIfInBounds_toArray, List.set_cons_zero, List.set_cons_succ]))
            generalize wn = wn8 at *
            have Hc := H9
            obtain ⟨cs, fs, zs⟩ := Hc
            (refine held_call 10 rfl (by kernel_rfl) (fun K hK => ?_); go_simp)
            clear cs fs zs
            obtain ⟨wn, hwn⟩ : ∃ W, W = puts wn8 b9 0 [.slice sa0 l1.length sc0, .slice sa1 g1.length sc1, .slice sa2 h1.length sc2, .slice ua3 q2.length uc3] := ⟨_, rfl⟩
            have hch : ((((wn8.setCell ⟨b9, 0, none⟩ (.slice sa0 l1.length sc0)).setCell ⟨b9, 1, none⟩ (.slice sa1 g1.length sc1)).setCell ⟨b9, 2, none⟩ (.slice sa2 h1.length sc2)).setCell ⟨b9, 3, none⟩ (.slice ua3 q2.length uc3)) = wn := hwn.symm
            rw [hch]
            clear hch
            have HBS : BlkS wn8 b9 4 := ⟨_, H9, rfl, by simp [isSl]⟩
            have HT := HT.puts (g := b9) (by omega) [.slice sa0 l1.length sc0, .slice sa1 g1.length sc1, .slice sa2 h1.length sc2, .slice ua3 q2.length uc3]
            have HX := HX.puts [.slice sa0 l1.length sc0, .slice sa1 g1.length sc1, .slice sa2 h1.length sc2, .slice ua3 q2.length uc3] HBS (by simp) (by simp [isSl])
            have HR := HR.puts [.slice sa0 l1.length sc0, .slice sa1 g1.length sc1, .slice sa2 h1.length sc2, .slice ua3 q2.length uc3] HBS (by simp) (by simp [isSl])
            have HS := HS.puts [.slice sa0 l1.length sc0, .slice sa1 g1.length sc1, .slice sa2 h1.length sc2, .slice ua3 q2.length uc3] HBS (by simp) (by simp [isSl])
            have H7 := H7.puts_far (g := b9) (by omega) [.slice sa0 l1.length sc0, .slice sa1 g1.length sc1, .slice sa2 h1.length sc2, .slice ua3 q2.length uc3] 0 wn8
            have H9 := H9.four (.slice sa0 l1.length sc0) (.slice sa1 g1.length sc1) (.slice sa2 h1.length sc2) (.slice ua3 q2.length uc3)
            have H8 := H8.puts_far (g := b9) (by omega) [.slice sa0 l1.length sc0, .slice sa1 g1.length sc1, .slice sa2 h1.length sc2, .slice ua3 q2.length uc3] 0 wn8
            rw [← hwn] at HT HX HR HS H7 H8 H9
            clear hwn HBS
            (refine hK.out _ _ (⟨HT.a.1, HT.b.1, H7.1⟩) (fun hHeld => ?_); clear hK K; (try simp only [Act.put, List.setIfInBounds_toArray, List.set_cons_zero, List.set_cons_succ]))
            refine wpAnyH_done (by kernel_rfl) ?_ _
            go_wp2_with fail
            go_meet
            exact ⟨b8, b9, ra0, rc0, sa0, sc0, ra1, rc1, sa1, sc1, ra2, rc2, sa2, sc2, rfl, rfl, by omega, by omega, by omega, Lib.hid ⟨HT, H7, H8, H9, HX, HR, HS⟩⟩
        · go_simp
          obtain ⟨b8, hb8⟩ : ∃ b, b = wk2.heap.size := ⟨_, rfl⟩
          obtain ⟨wk3, hwn⟩ : ∃ V, V = wk2.alloc (.cells #[.slice none 0 0, .slice none 0 0, .slice none 0 0, .slice none 0 0] 26) := ⟨_, rfl⟩
          rw [← hwn, ← hb8]
          have hbq : Below wk2.heap.size wk2 wk3 := by rw [hwn]; exact (Below.refl _ _).alloc (Nat.le_refl _) _
          have H8 : Blk wk3 b8 #[.slice none 0 0, .slice none 0 0, .slice none 0 0, .slice none 0 0] := by rw [hwn, hb8]; exact Blk.new _ _ _
          have lb8 : b7 < b8 := by rw [hb8]; exact H7.2.2
          have HX := HX.below hbq
          have H7 := H7.below hbq
          have HR := HR.below hbq
          have HT := HT.later hbq
          clear hbq hwn hb8
          (refine hK.out _ _ (⟨HT.a.1, HT.b.1, H7.1⟩) (fun hHeld => ?_); clear hK K; (try simp only [Act.put, List.setIfInBounds_toArray, List.set_cons_zero, List.set_cons_succ]))
          refine wpAnyH_ready (rs := [6, 8]) (by kernel_rfl) (by simp) (AllReadyH.cons rfl (fun K hK => ?_) (AllReadyH.cons rfl (fun K hK => ?_) AllReadyH.nil))
          · go_simp
            go_at_call 14; refine (AP2.out _ _ _ _ _ _ _ HT.low HX.back).mono ?_; rintro e wk4 ⟨y0, y1, y2, rfl, hy, hbq⟩
            obtain ⟨sa0, sc0, rfl⟩ := hy.r0.form
            obtain ⟨sa1, sc1, rfl⟩ := hy.r1.form
            obtain ⟨sa2, sc2, rfl⟩ := hy.r2.form
            have HX := HX.below hbq
            have H7 := H7.below hbq
            have HR := HR.below hbq
            have H8 := H8.below hbq
            have HT := HT.later hbq
            have HS := hy
            clear hy
            clear hbq
            (refine hK.out _ _ (⟨HT.a.1, HT.b.1, H7.1⟩) (fun hHeld => ?_); clear hK K; (try simp only [Act.put, List.setIfInBounds_toArray, List.set_cons_zero, List.set_cons_succ]))
            (refine held_call 8 rfl (by kernel_rfl) (fun K hK => ?_); go_simp)
            obtain ⟨b9, hb9⟩ : ∃ b, b = wk4.heap.size := ⟨_, rfl⟩
            obtain ⟨wk5, hwn⟩ : ∃ V, V = wk4.alloc (.cells #[.slice none 0 0, .slice none 0 0, .slice none 0 0, .slice none 0 0] 26) := ⟨_, rfl⟩
            rw [← hwn, ← hb9]
            have hbq : Below wk4.heap.size wk4 wk5 := by rw [hwn]; exact (Below.refl _ _).alloc (Nat.le_refl _) _
            have H9 : Blk wk5 b9 #[.slice none 0 0, .slice none 0 0, .slice none 0 0, .slice none 0 0] := by rw [hwn, hb9]; exact Blk.new _ _ _
            have lb9 : b7 < b9 := by rw [hb9]; exact H7.2.2
            have hne : b8 < b9 := by rw [hb9]; exact H8.2.2
            have HX := HX.below hbq
            have H7 := H7.below hbq
            have HR := HR.below hbq
            have HS := HS.below hbq
            have H8 := H8.below hbq
            have HT := HT.later hbq
            clear hbq hwn hb9
            (refine hK.out _ _ (⟨HT.a.1, HT.b.1, H7.1⟩) (fun hHeld => ?_); clear hK K; (try simp only [Act.put, List.setIfInBounds_toArray, List.set_cons_zero, List.set_cons_succ]))
            have Hc := H8
            obtain ⟨cs, fs, zs⟩ := Hc
            (refine held_call 9 rfl (by kernel_rfl) (fun K hK => ?_); go_simp)
            clear cs fs zs
            obtain ⟨wn, hwn⟩ : ∃ W, W = puts wk5 b8 0 [.slice ra0 l2.length rc0, .slice ra1 g2.length rc1, .slice ra2 h2.length rc2, .slice va3 q1.length vc3] := ⟨_, rfl⟩
            have hch : ((((wk5.setCell ⟨b8, 0, none⟩ (.slice ra0 l2.length rc0)).setCell ⟨b8, 1, none⟩ (.slice ra1 g2.length rc1)).setCell ⟨b8, 2, none⟩ (.slice ra2 h2.length rc2)).setCell ⟨b8, 3, none⟩ (.slice va3 q1.length vc3)) = wn := hwn.symm
            rw [hch]
            clear hch
            have HBS : BlkS wk5 b8 4 := ⟨_, H8, rfl, by simp [isSl]⟩
            have HT := HT.puts (g := b8) (by omega) [.slice ra0 l2.length rc0, .slice ra1 g2.length rc1, .slice ra2 h2.length rc2, .slice va3 q1.length vc3]
            have HX := HX.puts [.slice ra0 l2.length rc0, .slice ra1 g2.length rc1, .slice ra2 h2.length rc2, .slice va3 q1.length vc3] HBS (by simp) (by simp [isSl])
            have HR := HR.puts [.slice ra0 l2.length rc0, .slice ra1 g2.length rc1, .slice ra2 h2.length rc2, .slice va3 q1.length vc3] HBS (by simp) (by simp [isSl])
            have HS := HS.puts [.slice ra0 l2.length rc0, .slice ra1 g2.length rc1, .slice ra2 h2.length rc2, .slice va3 q1.length vc3] HBS (by simp) (by simp [isSl])
            have H7 := H7.puts_far (g := b8) (by omega) [.slice ra0 l2.length rc0, .slice ra1 g2.length rc1, .slice ra2 h2.length rc2, .slice va3 q1.length vc3] 0 wk5
            have H8 := H8.four (.slice ra0 l2.length rc0) (.slice ra1 g2.length rc1) (.slice ra2 h2.length rc2) (.slice va3 q1.length vc3)
            have H9 := H9.puts_far (g := b8) (by omega) [.slice ra0 l2.length rc0, .slice ra1 g2.length rc1, .slice ra2 h2.length rc2, .slice va3 q1.length vc3] 0 wk5
            rw [← hwn] at HT HX HR HS H7 H8 H9
            clear hwn HBS
            (refine hK.out _ _ (⟨HT.a.1, HT.b.1, H7.1⟩) (fun hHeld => ?_); clear hK K; (try simp only [Act.put, List.setIfInBounds_toArray, List.set_cons_zero, List.set_cons_succ]))
            generalize wn = wn8 at *
            have Hc := H9
            obtain ⟨cs, fs, zs⟩ := Hc
            (refine held_call 10 rfl (by kernel_rfl) (fun K hK => ?_); go_simp)
            clear cs fs zs
            obtain ⟨wn, hwn⟩ : ∃ W, W = puts wn8 b9 0 [.slice sa0 l1.length sc0, .slice sa1 g1.length sc1, .slice sa2 h1.length sc2, .slice ua3 q2.length uc3] := ⟨_, rfl⟩
            have hch : ((((wn8.setCell ⟨b9, 0, none⟩ (.slice sa0 l1.length sc0)).setCell ⟨b9, 1, none⟩ (.slice sa1 g1.length sc1)).setCell ⟨b9, 2, none⟩ (.slice sa2 h1.length sc2)).setCell ⟨b9, 3, none⟩ (.slice ua3 q2.length uc3)) = wn := hwn.symm
            rw [hch]
            clear hch
            have HBS : BlkS wn8 b9 4 := ⟨_, H9, rfl, by simp [isSl]⟩
            have HT := HT.puts (g := b9) (by omega) [.slice sa0 l1.length sc0, .slice sa1 g1.length sc1, .slice sa2 h1.length sc2, .slice ua3 q2.length uc3]
            have HX := HX.puts [.slice sa0 l1.length sc0, .slice sa1 g1.length sc1, .slice sa2 h1.length sc2, .slice ua3 q2.length uc3] HBS (by simp) (by simp [isSl])
            have HR := HR.puts [.slice sa0 l1.length sc0, .slice sa1 g1.length sc1, .slice sa2 h1.length sc2, .slice ua3 q2.length uc3] HBS (by simp) (by simp [isSl])
            have HS := HS.puts [.slice sa0 l1.length sc0, .slice sa1 g1.length sc1, .slice sa2 h1.length sc2, .slice ua3 q2.length uc3] HBS (by simp) (by simp [isSl])
            have H7 := H7.puts_far (g := b9) (by omega) [.slice sa0 l1.length sc0, .slice sa1 g1.length sc1, .slice sa2 h1.length sc2, .slice ua3 q2.length uc3] 0 wn8
            have H9 := H9.four (.slice sa0 l1.length sc0) (.slice sa1 g1.length sc1) (.slice sa2 h1.length sc2) (.slice ua3 q2.length uc3)
            have H8 := H8.puts_far (g := b9) (by omega) [.slice sa0 l1.length sc0, .slice sa1 g1.length sc1, .slice sa2 h1.length sc2, .slice ua3 q2.length uc3] 0 wn8
            rw [← hwn] at HT HX HR HS H7 H8 H9
            clear hwn HBS
            (refine hK.out _ _ (⟨HT.a.1, HT.b.1, H7.1⟩) (fun hHeld => ?_); clear hK K; (try simp only [Act.put, List.setIfInBounds_toArray, List.set_cons_zero, List.set_cons_succ]))
            refine wpAnyH_done (by kernel_rfl) ?_ _
            go_wp2_with fail
            go_meet
            exact ⟨b8, b9, ra0, rc0, sa0, sc0, ra1, rc1, sa1, sc1, ra2, rc2, sa2, sc2, rfl, rfl, by omega, by omega, by omega, Lib.hid ⟨HT, H7, H8, H9, HX, HR, HS⟩⟩
          · go_simp
            obtain ⟨b9, hb9⟩ : ∃ b, b = wk3.heap.size := ⟨_, rfl⟩
            obtain ⟨wk4, hwn⟩ : ∃ V, V = wk3.alloc (.cells #[.slice none 0 0, .slice none 0 0, .slice none 0 0, .slice none 0 0] 26) := ⟨_, rfl⟩
            rw [← hwn, ← hb9]
            have hbq : Below wk3.heap.size wk3 wk4 := by rw [hwn]; exact (Below.refl _ _).alloc (Nat.le_refl _) _
            have H9 : Blk wk4 b9 #[.slice none 0 0, .slice none 0 0, .slice none 0 0, .slice none 0 0] := by rw [hwn, hb9]; exact Blk.new _ _ _
            have lb9 : b7 < b9 := by rw [hb9]; exact H7.2.2
            have hne : b8 < b9 := by rw [hb9]; exact H8.2.2
            have HX := HX.below hbq
            have H7 := H7.below hbq
            have HR := HR.below hbq
            have H8 := H8.below hbq
            have HT := HT.later hbq
            clear hbq hwn hb9
            (refine hK.out _ _ (⟨HT.a.1, HT.b.1, H7.1⟩) (fun hHeld => ?_); clear hK K; (try simp only [Act.put, List.setIfInBounds_toArray, List.set_cons_zero, List.set_cons_succ]))
            (refine held_call 6 rfl (by kernel_rfl) (fun K hK => ?_); go_simp)
            go_at_call 14; refine (AP2.out _ _ _ _ _ _ _ HT.low HX.back).mono ?_; rintro e wk5 ⟨y0, y1, y2, rfl, hy, hbq⟩
            obtain ⟨sa0, sc0, rfl⟩ := hy.r0.form
            obtain ⟨sa1, sc1, rfl⟩ := hy.r1.form
            obtain ⟨sa2, sc2, rfl⟩ := hy.r2.form
            have HX := HX.below hbq
            have H7 := H7.below hbq
            have HR := HR.below hbq
            have H8 := H8.below hbq
            have H9 := H9.below hbq
            have HT := HT.later hbq
            have HS := hy
            clear hy
            clear hbq
            (refine hK.out _ _ (⟨HT.a.1, HT.b.1, H7.1⟩) (fun hHeld => ?_); clear hK K; (try simp only [Act.put, List.setIfInBounds_toArray, List.set_cons_zero, List.set_cons_succ]))
            have Hc := H8
            obtain ⟨cs, fs, zs⟩ := Hc
            (refine held_call 9 rfl (by kernel_rfl) (fun K hK => ?_); go_simp)
            clear cs fs zs
            obtain ⟨wn, hwn⟩ : ∃ W, W = puts wk5 b8 0 [.slice ra0 l2.length rc0, .slice ra1 g2.length rc1, .slice ra2 h2.length rc2, .slice va3 q1.length vc3] := ⟨_, rfl⟩
            have hch : ((((wk5.setCell ⟨b8, 0, none⟩ (.slice ra0 l2.length rc0)).setCell ⟨b8, 1, none⟩ (.slice ra1 g2.length rc1)).setCell ⟨b8, 2, none⟩ (.slice ra2 h2.length rc2)).setCell ⟨b8, 3, none⟩ (.slice va3 q1.length vc3)) = wn := hwn.symm
            rw [hch]
            clear hch
            have HBS : BlkS wk5 b8 4 := ⟨_, H8, rfl, by simp [isSl]⟩
            have HT := HT.puts (g := b8) (by omega) [.slice ra0 l2.length rc0, .slice ra1 g2.length rc1, .slice ra2 h2.length rc2, .slice va3 q1.length vc3]
            have HX := HX.puts [.slice ra0 l2.length rc0, .slice ra1 g2.length rc1, .slice ra2 h2.length rc2, .slice va3 q1.length vc3] HBS (by simp) (by simp [isSl])
            have HR := HR.puts [.slice ra0 l2.length rc0, .slice ra1 g2.length rc1, .slice ra2 h2.length rc2, .slice va3 q1.length vc3] HBS (by simp) (by simp [isSl])
            have HS := HS.puts [.slice ra0 l2.length rc0, .slice ra1 g2.length rc1, .slice ra2 h2.length rc2, .slice va3 q1.length vc3] HBS (by simp) (by simp [isSl])
            have H7 := H7.puts_far (g := b8) (by omega) [.slice ra0 l2.length rc0, .slice ra1 g2.length rc1, .slice ra2 h2.length rc2, .slice va3 q1.length vc3] 0 wk5
            have H8 := H8.four (.slice ra0 l2.length rc0) (.slice ra1 g2.length rc1) (.slice ra2 h2.length rc2) (.slice va3 q1.length vc3)
            have H9 := H9.puts_far (g := b8) (by omega) [.slice ra0 l2.length rc0, .slice ra1 g2.length rc1, .slice ra2 h2.length rc2, .slice va3 q1.length vc3] 0 wk5
            rw [← hwn] at HT HX HR HS H7 H8 H9
            clear hwn HBS
            (refine hK.out _ _ (⟨HT.a.1, HT.b.1, H7.1⟩) (fun hHeld => ?_); clear hK K; (try simp only [Act.put, List.setIfInBounds_toArray, List.set_cons_zero, List.set_cons_succ]))
            generalize wn = wn8 at *
            have Hc := H9
            obtain ⟨cs, fs, zs⟩ := Hc
            (refine held_call 10 rfl (by kernel_rfl) (fun K hK => ?_); go_simp)
            clear cs fs zs
            obtain ⟨wn, hwn⟩ : ∃ W, W = puts wn8 b9 0 [.slice sa0 l1.length sc0, .slice sa1 g1.length sc1, .slice sa2 h1.length sc2, .slice ua3 q2.length uc3] := ⟨_, rfl⟩
            have hch : ((((wn8.setCell ⟨b9, 0, none⟩ (.slice sa0 l1.length sc0)).setCell ⟨b9, 1, none⟩ (.slice sa1 g1.length sc1)).setCell ⟨b9, 2, none⟩ (.slice sa2 h1.length sc2)).setCell ⟨b9, 3, none⟩ (.slice ua3 q2.length uc3)) = wn := hwn.symm
            rw [hch]
            clear hch
            have HBS : BlkS wn8 b9 4 := ⟨_, H9, rfl, by simp [isSl]⟩
            have HT := HT.puts (g := b9) (by omega) [.slice sa0 l1.length sc0, .slice sa1 g1.length sc1, .slice sa2 h1.length sc2, .slice ua3 q2.length uc3]
            have HX := HX.puts [.slice sa0 l1.length sc0, .slice sa1 g1.length sc1, .slice sa2 h1.length sc2, .slice ua3 q2.length uc3] HBS (by simp) (by simp [isSl])
            have HR := HR.puts [.slice sa0 l1.length sc0, .slice sa1 g1.length sc1, .slice sa2 h1.length sc2, .slice ua3 q2.length uc3] HBS (by simp) (by simp [isSl])
            have HS := HS.puts [.slice sa0 l1.length sc0, .slice sa1 g1.length sc1, .slice sa2 h1.length sc2, .slice ua3 q2.length uc3] HBS (by simp) (by simp [isSl])
            have H7 := H7.puts_far (g := b9) (by omega) [.slice sa0 l1.length sc0, .slice sa1 g1.length sc1, .slice sa2 h1.length sc2, .slice ua3 q2.length uc3] 0 wn8
            have H9 := H9.four (.slice sa0 l1.length sc0) (.slice sa1 g1.length sc1) (.slice sa2 h1.length sc2) (.slice ua3 q2.length uc3)
            have H8 := H8.puts_far (g := b9) (by omega) [.slice sa0 l1.length sc0, .slice sa1 g1.length sc1, .slice sa2 h1.length sc2, .slice ua3 q2.length uc3] 0 wn8
            rw [← hwn] at HT HX HR HS H7 H8 H9
            clear hwn HBS
            (refine hK.out _ _ (⟨HT.a.1, HT.b.1, H7.1⟩) (fun hHeld => ?_); clear hK K; (try simp only [Act.put, List.setIfInBounds_toArray, List.set_cons_zero, List.set_cons_succ]))
            refine wpAnyH_done (by kernel_rfl) ?_ _
            go_wp2_with fail
            go_meet
            exact ⟨b8, b9, ra0, rc0, sa0, sc0, ra1, rc1, sa1, sc1, ra2, rc2, sa2, sc2, rfl, rfl, by omega, by omega, by omega, Lib.hid ⟨HT, H7, H8, H9, HX, HR, HS⟩⟩
        · go_simp
          obtain ⟨b9, hb9⟩ : ∃ b, b = wk2.heap.size := ⟨_, rfl⟩
          obtain ⟨wk3, hwn⟩ : ∃ V, V = wk2.alloc (.cells #[.slice none 0 0, .slice none 0 0, .slice none 0 0, .slice none 0 0] 26) := ⟨_, rfl⟩
          rw [← hwn, ← hb9]
          have hbq : Below wk2.heap.size wk2 wk3 := by rw [hwn]; exact (Below.refl _ _).alloc (Nat.le_refl _) _
          have H9 : Blk wk3 b9 #[.slice none 0 0, .slice none 0 0, .slice none 0 0, .slice none 0 0] := by rw [hwn, hb9]; exact Blk.new _ _ _
          have lb9 : b7 < b9 := by rw [hb9]; exact H7.2.2
          have HX := HX.below hbq
          have H7 := H7.below hbq
          have HR := HR.below hbq
          have HT := HT.later hbq
          clear hbq hwn hb9
          (refine hK.out _ _ (⟨HT.a.1, HT.b.1, H7.1⟩) (fun hHeld => ?_); clear hK K; (try simp only [Act.put, List.setIfInBounds_toArray, List.set_cons_zero, List.set_cons_succ]))
          refine wpAnyH_ready (rs := [6, 7]) (by kernel_rfl) (by simp) (AllReadyH.cons rfl (fun K hK => ?_) (AllReadyH.cons rfl (fun K hK => ?_) AllReadyH.nil))
          · go_simp
            go_at_call 14; refine (AP2.out _ _ _ _ _ _ _ HT.low HX.back).mono ?_; rintro e wk4 ⟨y0, y1, y2, rfl, hy, hbq⟩
            obtain ⟨sa0, sc0, rfl⟩ := hy.r0.form
            obtain ⟨sa1, sc1, rfl⟩ := hy.r1.form
            obtain ⟨sa2, sc2, rfl⟩ := hy.r2.form
            have HX := HX.below hbq
            have H7 := H7.below hbq
            have HR := HR.below hbq
            have H9 := H9.below hbq
            have HT := HT.later hbq
            have HS := hy
            clear hy
            clear hbq
            (refine hK.out _ _ (⟨HT.a.1, HT.b.1, H7.1⟩) (fun hHeld => ?_); clear hK K; (try simp only [Act.put, List.setIfInBounds_toArray, List.set_cons_zero, List.set_cons_succ]))
            (refine held_call 7 rfl (by kernel_rfl) (fun K hK => ?_); go_simp)
            obtain ⟨b8, hb8⟩ : ∃ b, b = wk4.heap.size := ⟨_, rfl⟩
            obtain ⟨wk5, hwn⟩ : ∃ V, V = wk4.alloc (.cells #[.slice none 0 0, .slice none 0 0, .slice none 0 0, .slice none 0 0] 26) := ⟨_, rfl⟩
            rw [← hwn, ← hb8]
            have hbq : Below wk4.heap.size wk4 wk5 := by rw [hwn]; exact (Below.refl _ _).alloc (Nat.le_refl _) _
            have H8 : Blk wk5 b8 #[.slice none 0 0, .slice none 0 0, .slice none 0 0, .slice none 0 0] := by rw [hwn, hb8]; exact Blk.new _ _ _
            have lb8 : b7 < b8 := by rw [hb8]; exact H7.2.2
            have hne : b9 < b8 := by rw [hb8]; exact H9.2.2
            have HX := HX.below hbq
            have H7 := H7.below hbq
            have HR := HR.below hbq
            have HS := HS.below hbq
            have H9 := H9.below hbq
            have HT := HT.later hbq
            clear hbq hwn hb8
            (refine hK.out _ _ (⟨HT.a.1, HT.b.1, H7.1⟩) (fun hHeld => ?_); clear hK K; (try simp only [Act.put, List.setIfInBounds_toArray, List.set_cons_zero, List.set_cons_succ]))
            have Hc := H8
            obtain ⟨cs, fs, zs⟩ := Hc
            (refine held_call 9 rfl (by kernel_rfl) (fun K hK => ?_); go_simp)
            clear cs fs zs
            obtain ⟨wn, hwn⟩ : ∃ W, W = puts wk5 b8 0 [.slice ra0 l2.length rc0, .slice ra1 g2.length rc1, .slice ra2 h2.length rc2, .slice va3 q1.length vc3] := ⟨_, rfl⟩
            have hch : ((((wk5.setCell ⟨b8, 0, none⟩ (.slice ra0 l2.length rc0)).setCell ⟨b8, 1, none⟩ (.slice ra1 g2.length rc1)).setCell ⟨b8, 2, none⟩ (.slice ra2 h2.length rc2)).setCell ⟨b8, 3, none⟩ (.slice va3 q1.length vc3)) = wn := hwn.symm
            rw [hch]
            clear hch
            have HBS : BlkS wk5 b8 4 := ⟨_, H8, rfl, by simp [isSl]⟩
            have HT := HT.puts (g := b8) (by omega) [.slice ra0 l2.length rc0, .slice ra1 g2.length rc1, .slice ra2 h2.length rc2, .slice va3 q1.length vc3]
            have HX := HX.puts [.slice ra0 l2.length rc0, .slice ra1 g2.length rc1, .slice ra2 h2.length rc2, .slice va3 q1.length vc3] HBS (by simp) (by simp [isSl])
            have HR := HR.puts [.slice ra0 l2.length rc0, .slice ra1 g2.length rc1, .slice ra2 h2.length rc2, .slice va3 q1.length vc3] HBS (by simp) (by simp [isSl])
            have HS := HS.puts [.slice ra0 l2.length rc0, .slice ra1 g2.length rc1, .slice ra2 h2.length rc2, .slice va3 q1.length vc3] HBS (by simp) (by simp [isSl])
            have H7 := H7.puts_far (g := b8) (by omega) [.slice ra0 l2.length rc0, .slice ra1 g2.length rc1, .slice ra2 h2.length rc2, .slice va3 q1.length vc3] 0 wk5
            have H8 := H8.four (.slice ra0 l2.length rc0) (.slice ra1 g2.length rc1) (.slice ra2 h2.length rc2) (.slice va3 q1.length vc3)
            have H9 := H9.puts_far (g := b8) (by omega) [.slice ra0 l2.length rc0, .slice ra1 g2.length rc1, .slice ra2 h2.length rc2, .slice va3 q1.length vc3] 0 wk5
            rw [← hwn] at HT HX HR HS H7 H8 H9
            clear hwn HBS
            (refine hK.out _ _ (⟨HT.a.1, HT.b.1, H7.1⟩) (fun hHeld => ?_); clear hK K; (try simp only [Act.put, List.setIfInBounds_toArray, List.set_cons_zero, List.set_cons_succ]))
            generalize wn = wn8 at *
            have Hc := H9
            obtain ⟨cs, fs, zs⟩ := Hc
            (refine held_call 10 rfl (by kernel_rfl) (fun K hK => ?_); go_simp)
            clear cs fs zs
            obtain ⟨wn, hwn⟩ : ∃ W, W = puts wn8 b9 0 [.slice sa0 l1.length sc0, .slice sa1 g1.length sc1, .slice sa2 h1.length sc2, .slice ua3 q2.length uc3] := ⟨_, rfl⟩
            have hch : ((((wn8.setCell ⟨b9, 0, none⟩ (.slice sa0 l1.length sc0)).setCell ⟨b9, 1, none⟩ (.slice sa1 g1.length sc1)).setCell ⟨b9, 2, none⟩ (.slice sa2 h1.length sc2)).setCell ⟨b9, 3, none⟩ (.slice ua3 q2.length uc3)) = wn := hwn.symm
            rw [hch]
            clear hch
            have HBS : BlkS wn8 b9 4 := ⟨_, H9, rfl, by simp [isSl]⟩
            have HT := HT.puts (g := b9) (by omega) [.slice sa0 l1.length sc0, .slice sa1 g1.length sc1, .slice sa2 h1.length sc2, .slice ua3 q2.length uc3]
            have HX := HX.puts [.slice sa0 l1.length sc0, .slice sa1 g1.length sc1, .slice sa2 h1.length sc2, .slice ua3 q2.length uc3] HBS (by simp) (by simp [isSl])
            have HR := HR.puts [.slice sa0 l1.length sc0, .slice sa1 g1.length sc1, .slice sa2 h1.length sc2, .slice ua3 q2.length uc3] HBS (by simp) (by simp [isSl])
            have HS := HS.puts [.slice sa0 l1.length sc0, .slice sa1 g1.length sc1, .slice sa2 h1.length sc2, .slice ua3 q2.length uc3] HBS (by simp) (by simp [isSl])
            have H7 := H7.puts_far (g := b9) (by omega) [.slice sa0 l1.length sc0, .slice sa1 g1.length sc1, .slice sa2 h1.length sc2, .slice ua3 q2.length uc3] 0 wn8
            have H9 := H9.four (.slice sa0 l1.length sc0) (.slice sa1 g1.length sc1) (.slice sa2 h1.length sc2) (.slice ua3 q2.length uc3)
            have H8 := H8.puts_far (g := b9) (by omega) [.slice sa0 l1.length sc0, .slice sa1 g1.length sc1, .slice sa2 h1.length sc2, .slice ua3 q2.length uc3] 0 wn8
            rw [← hwn] at HT HX HR HS H7 H8 H9
            clear hwn HBS
            (refine hK.out _ _ (⟨HT.a.1, HT.b.1, H7.1⟩) (fun hHeld => ?_); clear hK K; (try simp only [Act.put, List.setIfInBounds_toArray, List.set_cons_zero, List.set_cons_succ]))
            refine wpAnyH_done (by kernel_rfl) ?_ _
            go_wp2_with fail
            go_meet
            exact ⟨b8, b9, ra0, rc0, sa0, sc0, ra1, rc1, sa1, sc1, ra2, rc2, sa2, sc2, rfl, rfl, by omega, by omega, by omega, Lib.hid ⟨HT, H7, H8, H9, HX, HR, HS⟩⟩
          · go_simp
            obtain ⟨b8, hb8⟩ : ∃ b, b = wk3.heap.size := ⟨_, rfl⟩
            obtain ⟨wk4, hwn⟩ : ∃ V, V = wk3.alloc (.cells #[.slice none 0 0, .slice none 0 0, .slice none 0 0, .slice none 0 0] 26) := ⟨_, rfl⟩
            rw [← hwn, ← hb8]
            have hbq : Below wk3.heap.size wk3 wk4 := by rw [hwn]; exact (Below.refl _ _).alloc (Nat.le_refl _) _
            have H8 : Blk wk4 b8 #[.slice none 0 0, .slice none 0 0, .slice none 0 0, .slice none 0 0] := by rw [hwn, hb8]; exact Blk.new _ _ _
            have lb8 : b7 < b8 := by rw [hb8]; exact H7.2.2
            have hne : b9 < b8 := by rw [hb8]; exact H9.2.2
            have HX := HX.below hbq
            have H7 := H7.below hbq
            have HR := HR.below hbq
            have H9 := H9.below hbq
            have HT := HT.later hbq
            clear hbq hwn hb8
            (refine hK.out _ _ (⟨HT.a.1, HT.b.1, H7.1⟩) (fun hHeld => ?_); clear hK K; (try simp only [Act.put, List.setIfInBounds_toArray, List.set_cons_zero, List.set_cons_succ]))
            (refine held_call 6 rfl (by kernel_rfl) (fun K hK => ?_); go_simp)
            go_at_call 14; refine (AP2.out _ _ _ _ _ _ _ HT.low HX.back).mono ?_; rintro e wk5 ⟨y0, y1, y2, rfl, hy, hbq⟩
            obtain ⟨sa0, sc0, rfl⟩ := hy.r0.form
            obtain ⟨sa1, sc1, rfl⟩ := hy.r1.form
            obtain ⟨sa2, sc2, rfl⟩ := hy.r2.form
            have HX := HX.below hbq
            have H7 := H7.below hbq
            have HR := HR.below hbq
            have H8 := H8.below hbq
            have H9 := H9.below hbq
            have HT := HT.later hbq
            have HS := hy
            clear hy
            clear hbq
            (refine hK.out _ _ (⟨HT.a.1, HT.b.1, H7.1⟩) (fun hHeld => ?_); clear hK K; (try simp only [Act.put, List.setIfInBounds_toArray, List.set_cons_zero, List.set_cons_succ]))
            have Hc := H8
            obtain ⟨cs, fs, zs⟩ := Hc
            (refine held_call 9 rfl (by kernel_rfl) (fun K hK => ?_); go_simp)
            clear cs fs zs
            obtain ⟨wn, hwn⟩ : ∃ W, W = puts wk5 b8 0 [.slice ra0 l2.length rc0, .slice ra1 g2.length rc1, .slice ra2 h2.length rc2, .slice va3 q1.length vc3] := ⟨_, rfl⟩
            have hch : ((((wk5.setCell ⟨b8, 0, none⟩ (.slice ra0 l2.length rc0)).setCell ⟨b8, 1, none⟩ (.slice ra1 g2.length rc1)).setCell ⟨b8, 2, none⟩ (.slice ra2 h2.length rc2)).setCell ⟨b8, 3, none⟩ (.slice va3 q1.length vc3)) = wn := hwn.symm
            rw [hch]
            clear hch
            have HBS : BlkS wk5 b8 4 := ⟨_, H8, rfl, by simp [isSl]⟩
            have HT := HT.puts (g := b8) (by omega) [.slice ra0 l2.length rc0, .slice ra1 g2.length rc1, .slice ra2 h2.length rc2, .slice va3 q1.length vc3]
            have HX := HX.puts [.slice ra0 l2.length rc0, .slice ra1 g2.length rc1, .slice ra2 h2.length rc2, .slice va3 q1.length vc3] HBS (by simp) (by simp [isSl])
            have HR := HR.puts [.slice ra0 l2.length rc0, .slice ra1 g2.length rc1, .slice ra2 h2.length rc2, .slice va3 q1.length vc3] HBS (by simp) (by simp [isSl])
            have HS := HS.puts [.slice ra0 l2.length rc0, .slice ra1 g2.length rc1, .slice ra2 h2.length rc2, .slice va3 q1.length vc3] HBS (by simp) (by simp [isSl])
            have H7 := H7.puts_far (g := b8) (by omega) [.slice ra0 l2.length rc0, .slice ra1 g2.length rc1, .slice ra2 h2.length rc2, .slice va3 q1.length vc3] 0 wk5
            have H8 := H8.four (.slice ra0 l2.length rc0) (.slice ra1 g2.length rc1) (.slice ra2 h2.length rc2) (.slice va3 q1.length vc3)
            have H9 := H9.puts_far (g := b8) (by omega) [.slice ra0 l2.length rc0, .slice ra1 g2.length rc1, .slice ra2 h2.length rc2, .slice va3 q1.length vc3] 0 wk5
            rw [← hwn] at HT HX HR HS H7 H8 H9
            clear hwn HBS
            (refine hK.out _ _ (⟨HT.a.1, HT.b.1, H7.1⟩) (fun hHeld => ?_); clear hK K; (try simp only [Act.put, List.setIfInBounds_toArray, List.set_cons_zero, List.set_cons_succ]))
            generalize wn = wn8 at *
            have Hc := H9
            obtain ⟨cs, fs, zs⟩ := Hc
            (refine held_call 10 rfl (by kernel_rfl) (fun K hK => ?_); go_simp)
            clear cs fs zs
            obtain ⟨wn, hwn⟩ : ∃ W, W = puts wn8 b9 0 [.slice sa0 l1.length sc0, .slice sa1 g1.length sc1, .slice sa2 h1.length sc2, .slice ua3 q2.length uc3] := ⟨_, rfl⟩
            have hch : ((((wn8.setCell ⟨b9, 0, none⟩ (.slice sa0 l1.length sc0)).setCell ⟨b9, 1, none⟩ (.slice sa1 g1.length sc1)).setCell ⟨b9, 2, none⟩ (.slice sa2 h1.length sc2)).setCell ⟨b9, 3, none⟩ (.slice ua3 q2.length uc3)) = wn := hwn.symm
            rw [hch]
            clear hch
            have HBS : BlkS wn8 b9 4 := ⟨_, H9, rfl, by simp [isSl]⟩
            have HT := HT.puts (g := b9) (by omega) [.slice sa0 l1.length sc0, .slice sa1 g1.length sc1, .slice sa2 h1.length sc2, .slice ua3 q2.length uc3]
            have HX := HX.puts [.slice sa0 l1.length sc0, .slice sa1 g1.length sc1, .slice sa2 h1.length sc2, .slice ua3 q2.length uc3] HBS (by simp) (by simp [isSl])
            have HR := HR.puts [.slice sa0 l1.length sc0, .slice sa1 g1.length sc1, .slice sa2 h1.length sc2, .slice ua3 q2.length uc3] HBS (by simp) (by simp [isSl])
            have HS := HS.puts [.slice sa0 l1.length sc0, .slice sa1 g1.length sc1, .slice sa2 h1.length sc2, .slice ua3 q2.length uc3] HBS (by simp) (by simp [isSl])
            have H7 := H7.puts_far (g := b9) (by omega) [.slice sa0 l1.length sc0, .slice sa1 g1.length sc1, .slice sa2 h1.length sc2, .slice ua3 q2.length uc3] 0 wn8
            have H9 := H9.four (.slice sa0 l1.length sc0) (.slice sa1 g1.length sc1) (.slice sa2 h1.length sc2) (.slice ua3 q2.length uc3)
            have H8 := H8.puts_far (g := b9) (by omega) [.slice sa0 l1.length sc0, .slice sa1 g1.length sc1, .slice sa2 h1.length sc2, .slice ua3 q2.length uc3] 0 wn8
            rw [← hwn] at HT HX HR HS H7 H8 H9
            clear hwn HBS
            (refine hK.out _ _ (⟨HT.a.1, HT.b.1, H7.1⟩) (fun hHeld => ?_); clear hK K; (try simp only [Act.put, List.setIfInBounds_toArray, List.set_cons_zero, List.set_cons_succ]))
            refine wpAnyH_done (by kernel_rfl) ?_ _
            go_wp2_with fail
            go_meet
            exact ⟨b8, b9, ra0, rc0, sa0, sc0, ra1, rc1, sa1, sc1, ra2, rc2, sa2, sc2, rfl, rfl, by omega, by omega, by omega, Lib.hid ⟨HT, H7, H8, H9, HX, HR, HS⟩⟩
      · go_simp
        obtain ⟨b8, hb8⟩ : ∃ b, b = wk1.heap.size := ⟨_, rfl⟩
        obtain ⟨wk2, hwn⟩ : ∃ V, V = wk1.alloc (.cells #[.slice none 0 0, .slice none 0 0, .slice none 0 0, .slice none 0 0] 26) := ⟨_, rfl⟩
        rw [← hwn, ← hb8]
        have hbq : Below wk1.heap.size wk1 wk2 := by rw [hwn]; exact (Below.refl _ _).alloc (Nat.le_refl _) _
        have H8 : Blk wk2 b8 #[.slice none 0 0, .slice none 0 0, .slice none 0 0, .slice none 0 0] := by rw [hwn, hb8]; exact Blk.new _ _ _
        have lb8 : b7 < b8 := by rw [hb8]; exact H7.2.2
        have HX := HX.below hbq
        have H7 := H7.below hbq
        have HR := HR.below hbq
        have HT := HT.later hbq
        clear hbq hwn hb8
        (refine hK.out _ _ (⟨HT.a.1, HT.b.1, H7.1⟩) (fun hHeld => ?_); clear hK K; (try simp only [Act.put, List.setIfInBounds_toArray, List.set_cons_zero, List.set_cons_succ]))
        refine wpAnyH_ready (rs := [5, 8]) (by kernel_rfl) (by simp) (AllReadyH.cons rfl (fun K hK => ?_) (AllReadyH.cons rfl (fun K hK => ?_) AllReadyH.nil))
        · go_simp
          go_at_call 10; refine (BK.out _ HX).mono ?_; rintro e wk3 ⟨rfl, hbq⟩
          have HX := HX.below hbq
          have H7 := H7.below hbq
          have HR := HR.below hbq
          have H8 := H8.below hbq
          have HT := HT.later hbq
          clear hbq
          (refine hK.out _ _ (⟨HT.a.1, HT.b.1, H7.1⟩) (fun hHeld => ?_); clear hK K; (try simp only [Act.put, List.setIfInBounds_toArray, List.set_cons_zero, List.set_cons_succ]))
          refine wpAnyH_ready (rs := [6, 8]) (by kernel_rfl) (by simp) (AllReadyH.cons rfl (fun K hK => ?_) (AllReadyH.cons rfl (fun K hK => ?_) AllReadyH.nil))
          · go_simp
            go_at_call 14; refine (AP2.out _ _ _ _ _ _ _ HT.low HX.back).mono ?_; rintro e wk4 ⟨y0, y1, y2, rfl, hy, hbq⟩
            obtain ⟨sa0, sc0, rfl⟩ := hy.r0.form
            obtain ⟨sa1, sc1, rfl⟩ := hy.r1.form
            obtain ⟨sa2, sc2, rfl⟩ := hy.r2.form
            have HX := HX.below hbq
            have H7 := H7.below hbq
            have HR := HR.below hbq
            have H8 := H8.below hbq
            have HT := HT.later hbq
            have HS := hy
            clear hy
            clear hbq
            (refine hK.out _ _ (⟨HT.a.1, HT.b.1, H7.1⟩) (fun hHeld => ?_); clear hK K; (try simp only [Act.put, List.setIfInBounds_toArray, List.set_cons_zero, List.set_cons_succ]))
            (refine held_call 8 rfl (by kernel_rfl) (fun K hK => ?_); go_simp)
            obtain ⟨b9, hb9⟩ : ∃ b, b = wk4.heap.size := ⟨_, rfl⟩
            obtain ⟨wk5, hwn⟩ : ∃ V, V = wk4.alloc (.cells #[.slice none 0 0, .slice none 0 0, .slice none 0 0, .slice none 0 0] 26) := ⟨_, rfl⟩
            rw [← hwn, ← hb9]
            have hbq : Below wk4.heap.size wk4 wk5 := by rw [hwn]; exact (Below.refl _ _).alloc (Nat.le_refl _) _
            have H9 : Blk wk5 b9 #[.slice none 0 0, .slice none 0 0, .slice none 0 0, .slice none 0 0] := by rw [hwn, hb9]; exact Blk.new _ _ _
            have lb9 : b7 < b9 := by rw [hb9]; exact H7.2.2
            have hne : b8 < b9 := by rw [hb9]; exact H8.2.2
            have HX := HX.below hbq
            have H7 := H7.below hbq
            have HR := HR.below hbq
            have HS := HS.below hbq
            have H8 := H8.below hbq
            have HT := HT.later hbq
            clear hbq hwn hb9
            (refine hK.out _ _ (⟨HT.a.1, HT.b.1, H7.1⟩) (fun hHeld => ?_); clear hK K; (try simp only [Act.put, List.setIfInBounds_toArray, List.set_cons_zero, List.set_cons_succ]))
            have Hc := H8
            obtain ⟨cs, fs, zs⟩ := Hc
            (refine held_call 9 rfl (by kernel_rfl) (fun K hK => ?_); go_simp)
            clear cs fs zs
            obtain ⟨wn, hwn⟩ : ∃ W, W = puts wk5 b8 0 [.slice ra0 l2.length rc0, .slice ra1 g2.length rc1, .slice ra2 h2.length rc2, .slice va3 q1.length vc3] := ⟨_, rfl⟩
            have hch : ((((wk5.setCell ⟨b8, 0, none⟩ (.slice ra0 l2.length rc0)).setCell ⟨b8, 1, none⟩ (.slice ra1 g2.length rc1)).setCell ⟨b8, 2, none⟩ (.slice ra2 h2.length rc2)).setCell ⟨b8, 3, none⟩ (.slice va3 q1.length vc3)) = wn := hwn.symm
            rw [hch]
            clear hch
            have HBS : BlkS wk5 b8 4 := ⟨_, H8, rfl, by simp [isSl]⟩
            have HT := HT.puts (g := b8) (by omega) [.slice ra0 l2.length rc0, .slice ra1 g2.length rc1, .slice ra2 h2.length rc2, .slice va3 q1.length vc3]
            have HX := HX.puts [.slice ra0 l2.length rc0, .slice ra1 g2.length rc1, .slice ra2 h2.length rc2, .slice va3 q1.length vc3] HBS (by simp) (by simp [isSl])
            have HR := HR.puts [.slice ra0 l2.length rc0, .slice ra1 g2.length rc1, .slice ra2 h2.length rc2, .slice va3 q1.length vc3] HBS (by simp) (by simp [isSl])
            have HS := HS.puts [.slice ra0 l2.length rc0, .slice ra1 g2.length rc1, .slice ra2 h2.length rc2, .slice va3 q1.length vc3] HBS (by simp) (by simp [isSl])
            have H7 := H7.puts_far (g := b8) (by omega) [.slice ra0 l2.length rc0, .slice ra1 g2.length rc1, .slice ra2 h2.length rc2, .slice va3 q1.length vc3] 0 wk5
            have H8 := H8.four (.slice ra0 l2.length rc0) (.slice ra1 g2.length rc1) (.slice ra2 h2.length rc2) (.slice va3 q1.length vc3)
            have H9 := H9.puts_far (g := b8) (by omega) [.slice ra0 l2.length rc0, .slice ra1 g2.length rc1, .slice ra2 h2.length rc2, .slice va3 q1.length vc3] 0 wk5
            rw [← hwn] at HT HX HR HS H7 H8 H9
            clear hwn HBS
            (refine hK.out _ _ (⟨HT.a.1, HT.b.1, H7.1⟩) (fun hHeld => ?_); clear hK K; (try simp only [Act.put, List.setIfInBounds_toArray, List.set_cons_zero, List.set_cons_succ]))
            generalize wn = wn8 at *
            have Hc := H9
            obtain ⟨cs, fs, zs⟩ := Hc
            (refine held_call 10 rfl (by kernel_rfl) (fun K hK => ?_); go_simp)
            clear cs fs zs
            obtain ⟨wn, hwn⟩ : ∃ W, W = puts wn8 b9 0 [.slice sa0 l1.length sc0, .slice sa1 g1.length sc1, .slice sa2 h1.length sc2, .slice ua3 q2.length uc3] := ⟨_, rfl⟩
            have hch : ((((wn8.setCell ⟨b9, 0, none⟩ (.slice sa0 l1.length sc0)).setCell ⟨b9, 1, none⟩ (.slice sa1 g1.length sc1)).setCell ⟨b9, 2, none⟩ (.slice sa2 h1.length sc2)).setCell ⟨b9, 3, none⟩ (.slice ua3 q2.length uc3)) = wn := hwn.symm
            rw [hch]
            clear hch
            have HBS : BlkS wn8 b9 4 := ⟨_, H9, rfl, by simp [isSl]⟩
            have HT := HT.puts (g := b9) (by omega) [.slice sa0 l1.length sc0, .slice sa1 g1.length sc1, .slice sa2 h1.length sc2, .slice ua3 q2.length uc3]
            have HX := HX.puts [.slice sa0 l1.length sc0, .slice sa1 g1.length sc1, .slice sa2 h1.length sc2, .slice ua3 q2.length uc3] HBS (by simp) (by simp [isSl])
            have HR := HR.puts [.slice sa0 l1.length sc0, .slice sa1 g1.length sc1, .slice sa2 h1.length sc2, .slice ua3 q2.length uc3] HBS (by simp) (by simp [isSl])
            have HS := HS.puts [.slice sa0 l1.length sc0, .slice sa1 g1.length sc1, .slice sa2 h1.length sc2, .slice ua3 q2.length uc3] HBS (by simp) (by simp [isSl])
            have H7 := H7.puts_far (g := b9) (by omega) [.slice sa0 l1.length sc0, .slice sa1 g1.length sc1, .slice sa2 h1.length sc2, .slice ua3 q2.length uc3] 0 wn8
            have H9 := H9.four (.slice sa0 l1.length sc0) (.slice sa1 g1.length sc1) (.slice sa2 h1.length sc2) (.slice ua3 q2.length uc3)
            have H8 := H8.puts_far (g := b9) (by omega) [.slice sa0 l1.length sc0, .slice sa1 g1.length sc1, .slice sa2 h1.length sc2, .slice ua3 q2.length uc3] 0 wn8
            rw [← hwn] at HT HX HR HS H7 H8 H9
            clear hwn HBS
            (refine hK.out _ _ (⟨HT.a.1, HT.b.1, H7.1⟩) (fun hHeld => ?_); clear hK K; (try simp only [Act.put, List.setIfInBounds_toArray, List.set_cons_zero, List.set_cons_succ]))
            refine wpAnyH_done (by kernel_rfl) ?_ _
            go_wp2_with fail
            go_meet
            exact ⟨b8, b9, ra0, rc0, sa0, sc0, ra1, rc1, sa1, sc1, ra2, rc2, sa2, sc2, rfl, rfl, by omega, by omega, by omega, Lib.hid ⟨HT, H7, H8, H9, HX, HR, HS⟩⟩
          · go_simp
            obtain ⟨b9, hb9⟩ : ∃ b, b = wk3.heap.size := ⟨_, rfl⟩
            obtain ⟨wk4, hwn⟩ : ∃ V, V = wk3.alloc (.cells #[.slice none 0 0, .slice none 0 0, .slice none 0 0, .slice none 0 0] 26) := ⟨_, rfl⟩
            rw [← hwn, ← hb9]
            have hbq : Below wk3.heap.size wk3 wk4 := by rw [hwn]; exact (Below.refl _ _).alloc (Nat.le_refl _) _
            have H9 : Blk wk4 b9 #[.slice none 0 0, .slice none 0 0, .slice none 0 0, .slice none 0 0] := by rw [hwn, hb9]; exact Blk.new _ _ _
            have lb9 : b7 < b9 := by rw [hb9]; exact H7.2.2
            have hne : b8 < b9 := by rw [hb9]; exact H8.2.2
            have HX := HX.below hbq
            have H7 := H7.below hbq
            have HR := HR.below hbq
            have H8 := H8.below hbq
            have HT := HT.later hbq
            clear hbq hwn hb9
            (refine hK.out _ _ (⟨HT.a.1, HT.b.1, H7.1⟩) (fun hHeld => ?_); clear hK K; (try simp only [Act.put, List.setIfInBounds_toArray, List.set_cons_zero, List.set_cons_succ]))
            (refine held_call 6 rfl (by kernel_rfl) (fun K hK => ?_); go_simp)
            go_at_call 14; refine (AP2.out _ _ _ _ _ _ _ HT.low HX.back).mono ?_; rintro e wk5 ⟨y0, y1, y2, rfl, hy, hbq⟩
            obtain ⟨sa0, sc0, rfl⟩ := hy.r0.form
            obtain ⟨sa1, sc1, rfl⟩ := hy.r1.form
            obtain ⟨sa2, sc2, rfl⟩ := hy.r2.form
            have HX := HX.below hbq
            have H7 := H7.below hbq
            have HR := HR.below hbq
            have H8 := H8.below hbq
            have H9 := H9.below hbq
            have HT := HT.later hbq
            have HS := hy
            clear hy
            clear hbq
            (refine hK.out _ _ (⟨HT.a.1, HT.b.1, H7.1⟩) (fun hHeld => ?_); clear hK K; (try simp only [Act.put, List.setIfInBounds_toArray, List.set_cons_zero, List.set_cons_succ]))
            have Hc := H8
            obtain ⟨cs, fs, zs⟩ := Hc
            (refine held_call 9 rfl (by kernel_rfl) (fun K hK => ?_); go_simp)
            clear cs fs zs
            obtain ⟨wn, hwn⟩ : ∃ W, W = puts wk5 b8 0 [.slice ra0 l2.length rc0, .slice ra1 g2.length rc1, .slice ra2 h2.length rc2, .slice va3 q1.length vc3] := ⟨_, rfl⟩
            have hch : ((((wk5.setCell ⟨b8, 0, none⟩ (.slice ra0 l2.length rc0)).setCell ⟨b8, 1, none⟩ (.slice ra1 g2.length rc1)).setCell ⟨b8, 2, none⟩ (.slice ra2 h2.length rc2)).setCell ⟨b8, 3, none⟩ (.slice va3 q1.length vc3)) = wn := hwn.symm
            rw [hch]
            clear hch
            have HBS : BlkS wk5 b8 4 := ⟨_, H8, rfl, by simp [isSl]⟩
            have HT := HT.puts (g := b8) (by omega) [.slice ra0 l2.length rc0, .slice ra1 g2.length rc1, .slice ra2 h2.length rc2, .slice va3 q1.length vc3]
            have HX := HX.puts [.slice ra0 l2.length rc0, .slice ra1 g2.length rc1, .slice ra2 h2.length rc2, .slice va3 q1.length vc3] HBS (by simp) (by simp [isSl])
            have HR := HR.puts [.slice ra0 l2.length rc0, .slice ra1 g2.length rc1, .slice ra2 h2.length rc2, .slice va3 q1.length vc3] HBS (by simp) (by simp [isSl])
            have HS := HS.puts [.slice ra0 l2.length rc0, .slice ra1 g2.length rc1, .slice ra2 h2.length rc2, .slice va3 q1.length vc3] HBS (by simp) (by simp [isSl])
            have H7 := H7.puts_far (g := b8) (by omega) [.slice ra0 l2.length rc0, .slice ra1 g2.length rc1, .slice ra2 h2.length rc2, .slice va3 q1.length vc3] 0 wk5
            have H8 := H8.four (.slice ra0 l2.length rc0) (.slice ra1 g2.length rc1) (.slice ra2 h2.length rc2) (.slice va3 q1.length vc3)
            have H9 := H9.puts_far (g := b8) (by omega) [.slice ra0 l2.length rc0, .slice ra1 g2.length rc1, .slice ra2 h2.length rc2, .slice va3 q1.length vc3] 0 wk5
            rw [← hwn] at HT HX HR HS H7 H8 H9
            clear hwn HBS
            (refine hK.out _ _ (⟨HT.a.1, HT.b.1, H7.1⟩) (fun hHeld => ?_); clear hK K; (try simp only [Act.put, List.setIfInBounds_toArray, List.set_cons_zero, List.set_cons_succ]))
            generalize wn = wn8 at *
            have Hc := H9
            obtain ⟨cs, fs, zs⟩ := Hc
            (refine held_call 10 rfl (by kernel_rfl) (fun K hK => ?_); go_simp)
            clear cs fs zs
            obtain ⟨wn, hwn⟩ : ∃ W, W = puts wn8 b9 0 [.slice sa0 l1.length sc0, .slice sa1 g1.length sc1, .slice sa2 h1.length sc2, .slice ua3 q2.length uc3] := ⟨_, rfl⟩
            have hch : ((((wn8.setCell ⟨b9, 0, none⟩ (.slice sa0 l1.length sc0)).setCell ⟨b9, 1, none⟩ (.slice sa1 g1.length sc1)).setCell ⟨b9, 2, none⟩ (.slice sa2 h1.length sc2)).setCell ⟨b9, 3, none⟩ (.slice ua3 q2.length uc3)) = wn := hwn.symm
            rw [hch]
            clear hch
            have HBS : BlkS wn8 b9 4 := ⟨_, H9, rfl, by simp [isSl]⟩
            have HT := HT.puts (g := b9) (by omega) [.slice sa0 l1.length sc0, .slice sa1 g1.length sc1, .slice sa2 h1.length sc2, .slice ua3 q2.length uc3]
            have HX := HX.puts [.slice sa0 l1.length sc0, .slice sa1 g1.length sc1, .slice sa2 h1.length sc2, .slice ua3 q2.length uc3] HBS (by simp) (by simp [isSl])
            have HR := HR.puts [.slice sa0 l1.length sc0, .slice sa1 g1.length sc1, .slice sa2 h1.length sc2, .slice ua3 q2.length uc3] HBS (by simp) (by simp [isSl])
            have HS := HS.puts [.slice sa0 l1.length sc0, .slice sa1 g1.length sc1, .slice sa2 h1.length sc2, .slice ua3 q2.length uc3] HBS (by simp) (by simp [isSl])
            have H7 := H7.puts_far (g := b9) (by omega) [.slice sa0 l1.length sc0, .slice sa1 g1.length sc1, .slice sa2 h1.length sc2, .slice ua3 q2.length uc3] 0 wn8
            have H9 := H9.four (.slice sa0 l1.length sc0) (.slice sa1 g1.length sc1) (.slice sa2 h1.length sc2) (.slice ua3 q2.length uc3)
            have H8 := H8.puts_far (g := b9) (by omega) [.slice sa0 l1.length sc0, .slice sa1 g1.length sc1, .slice sa2 h1.length sc2, .slice ua3 q2.length uc3] 0 wn8
            rw [← hwn] at HT HX HR HS H7 H8 H9
            clear hwn HBS
            (refine hK.out _ _ (⟨HT.a.1, HT.b.1, H7.1⟩) (fun hHeld => ?_); clear hK K; (try simp only [Act.put, List.setIfInBounds_toArray, List.set_cons_zero, List.set_cons_succ]))
            refine wpAnyH_done (by kernel_rfl) ?_ _
            go_wp2_with fail
            go_meet
            exact ⟨b8, b9, ra0, rc0, sa0, sc0, ra1, rc1, sa1, sc1, ra2, rc2, sa2, sc2, rfl, rfl, by omega, by omega, by omega, Lib.hid ⟨HT, H7, H8, H9, HX, HR, HS⟩⟩
        · go_simp
          obtain ⟨b9, hb9⟩ : ∃ b, b = wk2.heap.size := ⟨_, rfl⟩
          obtain ⟨wk3, hwn⟩ : ∃ V, V = wk2.alloc (.cells #[.slice none 0 0, .slice none 0 0, .slice none 0 0, .slice none 0 0] 26) := ⟨_, rfl⟩
          rw [← hwn, ← hb9]
          have hbq : Below wk2.heap.size wk2 wk3 := by rw [hwn]; exact (Below.refl _ _).alloc (Nat.le_refl _) _
          have H9 : Blk wk3 b9 #[.slice none 0 0, .slice none 0 0, .slice none 0 0, .slice none 0 0] := by rw [hwn, hb9]; exact Blk.new _ _ _
          have lb9 : b7 < b9 := by rw [hb9]; exact H7.2.2
          have hne : b8 < b9 := by rw [hb9]; exact H8.2.2
          have HX := HX.below hbq
          have H7 := H7.below hbq
          have HR := HR.below hbq
          have H8 := H8.below hbq
          have HT := HT.later hbq
          clear hbq hwn hb9
          (refine hK.out _ _ (⟨HT.a.1, HT.b.1, H7.1⟩) (fun hHeld => ?_); clear hK K; (try simp only [Act.put, List.setIfInBounds_toArray, List.set_cons_zero, List.set_cons_succ]))
          (refine held_call 5 rfl (by kernel_rfl) (fun K hK => ?_); go_simp)
          go_at_call 10; refine (BK.out _ HX).mono ?_; rintro e wk4 ⟨rfl, hbq⟩
          have HX := HX.below hbq
          have H7 := H7.below hbq
          have HR := HR.below hbq
          have H8 := H8.below hbq
          have H9 := H9.below hbq
          have HT := HT.later hbq
          clear hbq
          (refine hK.out _ _ (⟨HT.a.1, HT.b.1, H7.1⟩) (fun hHeld => ?_); clear hK K; (try simp only [Act.put, List.setIfInBounds_toArray, List.set_cons_zero, List.set_cons_succ]))
          (refine held_call 6 rfl (by kernel_rfl) (fun K hK => ?_); go_simp)
          go_at_call 14; refine (AP2.out _ _ _ _ _ _ _ HT.low HX.back).mono ?_; rintro e wk5 ⟨y0, y1, y2, rfl, hy, hbq⟩
          obtain ⟨sa0, sc0, rfl⟩ := hy.r0.form
          obtain ⟨sa1, sc1, rfl⟩ := hy.r1.form
          obtain ⟨sa2, sc2, rfl⟩ := hy.r2.form
          have HX := HX.below hbq
          have H7 := H7.below hbq
          have HR := HR.below hbq
          have H8 := H8.below hbq
          have H9 := H9.below hbq
          have HT := HT.later hbq
          have HS := hy
          clear hy
          clear hbq
          (refine hK.out _ _ (⟨HT.a.1, HT.b.1, H7.1⟩) (fun hHeld => ?_); clear hK K; (try simp only [Act.put, List.setIfInBounds_toArray, List.set_cons_zero, List.set_cons_succ]))
          have Hc := H8
          obtain ⟨cs, fs, zs⟩ := Hc
          (refine held_call 9 rfl (by kernel_rfl) (fun K hK => ?_); go_simp)
          clear cs fs zs
          obtain ⟨wn, hwn⟩ : ∃ W, W = puts wk5 b8 0 [.slice ra0 l2.length rc0, .slice ra1 g2.length rc1, .slice ra2 h2.length rc2, .slice va3 q1.length vc3] := ⟨_, rfl⟩
          have hch : ((((wk5.setCell ⟨b8, 0, none⟩ (.slice ra0 l2.length rc0)).setCell ⟨b8, 1, none⟩ (.slice ra1 g2.length rc1)).setCell ⟨b8, 2, none⟩ (.slice ra2 h2.length rc2)).setCell ⟨b8, 3, none⟩ (.slice va3 q1.length vc3)) = wn := hwn.symm
          rw [hch]
          clear hch
          have HBS : BlkS wk5 b8 4 := ⟨_, H8, rfl, by simp [isSl]⟩
          have HT := HT.puts (g := b8) (by omega) [.slice ra0 l2.length rc0, .slice ra1 g2.length rc1, .slice ra2 h2.length rc2, .slice va3 q1.length vc3]
          have HX := HX.puts [.slice ra0 l2.length rc0, .slice ra1 g2.length rc1, .slice ra2 h2.length rc2, .slice va3 q1.length vc3] HBS (by simp) (by simp [isSl])
          have HR := HR.puts [.slice ra0 l2.length rc0, .slice ra1 g2.length rc1, .slice ra2 h2.length rc2, .slice va3 q1.length vc3] HBS (by simp) (by simp [isSl])
          have HS := HS.puts [.slice ra0 l2.length rc0, .slice ra1 g2.length rc1, .slice ra2 h2.length rc2, .slice va3 q1.length vc3] HBS (by simp) (by simp [isSl])
          have H7 := H7.puts_far (g := b8) (by omega) [.slice ra0 l2.length rc0, .slice ra1 g2.length rc1, .slice ra2 h2.length rc2, .slice va3 q1.length vc3] 0 wk5
          have H8 := H8.four (.slice ra0 l2.length rc0) (.slice ra1 g2.length rc1) (.slice ra2 h2.length rc2) (.slice va3 q1.length vc3)
          have H9 := H9.puts_far (g := b8) (by omega) [.slice ra0 l2.length rc0, .slice ra1 g2.length rc1, .slice ra2 h2.length rc2, .slice va3 q1.length vc3] 0 wk5
          rw [← hwn] at HT HX HR HS H7 H8 H9
          clear hwn HBS
          (refine hK.out _ _ (⟨HT.a.1, HT.b.1, H7.1⟩) (fun hHeld => ?_); clear hK K; (try simp only [Act.put, List.setIfInBounds_toArray, List.set_cons_zero, List.set_cons_succ]))
          generalize wn = wn8 at *
          have Hc := H9
          obtain ⟨cs, fs, zs⟩ := Hc
          (refine held_call 10 rfl (by kernel_rfl) (fun K hK => ?_); go_simp)
          clear cs fs zs
          obtain ⟨wn, hwn⟩ : ∃ W, W = puts wn8 b9 0 [.slice sa0 l1.length sc0, .slice sa1 g1.length sc1, .slice sa2 h1.length sc2, .slice ua3 q2.length uc3] := ⟨_, rfl⟩
          have hch : ((((wn8.setCell ⟨b9, 0, none⟩ (.slice sa0 l1.length sc0)).setCell ⟨b9, 1, none⟩ (.slice sa1 g1.length sc1)).setCell ⟨b9, 2, none⟩ (.slice sa2 h1.length sc2)).setCell ⟨b9, 3, none⟩ (.slice ua3 q2.length uc3)) = wn := hwn.symm
          rw [hch]
          clear hch
          have HBS : BlkS wn8 b9 4 := ⟨_, H9, rfl, by simp [isSl]⟩
          have HT := HT.puts (g := b9) (by omega) [.slice sa0 l1.length sc0, .slice sa1 g1.length sc1, .slice sa2 h1.length sc2, .slice ua3 q2.length uc3]
          have HX := HX.puts [.slice sa0 l1.length sc0, .slice sa1 g1.length sc1, .slice sa2 h1.length sc2, .slice ua3 q2.length uc3] HBS (by simp) (by simp [isSl])
          have HR := HR.puts [.slice sa0 l1.length sc0, .slice sa1 g1.length sc1, .slice sa2 h1.length sc2, .slice ua3 q2.length uc3] HBS (by simp) (by simp [isSl])
          have HS := HS.puts [.slice sa0 l1.length sc0, .slice sa1 g1.length sc1, .slice sa2 h1.length sc2, .slice ua3 q2.length uc3] HBS (by simp) (by simp [isSl])
          have H7 := H7.puts_far (g := b9) (by omega) [.slice sa0 l1.length sc0, .slice sa1 g1.length sc1, .slice sa2 h1.length sc2, .slice ua3 q2.length uc3] 0 wn8
          have H9 := H9.four (.slice sa0 l1.length sc0) (.slice sa1 g1.length sc1) (.slice sa2 h1.length sc2) (.slice ua3 q2.length uc3)
          have H8 := H8.puts_far (g := b9) (by omega) [.slice sa0 l1.length sc0, .slice sa1 g1.length sc1, .slice sa2 h1.length sc2, .slice ua3 q2.length uc3] 0 wn8
          rw [← hwn] at HT HX HR HS H7 H8 H9
          clear hwn HBS
          (refine hK.out _ _ (⟨HT.a.1, HT.b.1, H7.1⟩) (fun hHeld => ?_); clear hK K; (try simp only [Act.put, List.setIfInBounds_toArray, List.set_cons_zero, List.set_cons_succ]))
          refine wpAnyH_done (by kernel_rfl) ?_ _
          go_wp2_with fail
          go_meet
          exact ⟨b8, b9, ra0, rc0, sa0, sc0, ra1, rc1, sa1, sc1, ra2, rc2, sa2, sc2, rfl, rfl, by omega, by omega, by omega, Lib.hid ⟨HT, H7, H8, H9, HX, HR, HS⟩⟩
      · go_simp
        obtain ⟨b9, hb9⟩ : ∃ b, b = wk1.heap.size := ⟨_, rfl⟩
        obtain ⟨wk2, hwn⟩ : ∃ V, V = wk1.alloc (.cells #[.slice none 0 0, .slice none 0 0, .slice none 0 0, .slice none 0 0] 26) := ⟨_, rfl⟩
        rw [← hwn, ← hb9]
        have hbq : Below wk1.heap.size wk1 wk2 := by rw [hwn]; exact (Below.refl _ _).alloc (Nat.le_refl _) _
        have H9 : Blk wk2 b9 #[.slice none 0 0, .slice none 0 0, .slice none 0 0, .slice none 0 0] := by rw [hwn, hb9]; exact Blk.new _ _ _
        have lb9 : b7 < b9 := by rw [hb9]; exact H7.2.2
        have HX := HX.below hbq
        have H7 := H7.below hbq
        have HR := HR.below hbq
        have HT := HT.later hbq
        clear hbq hwn hb9
        (refine hK.out _ _ (⟨HT.a.1, HT.b.1, H7.1⟩) (fun hHeld => ?_); clear hK K; (try simp only [Act.put, List.setIfInBounds_toArray, List.set_cons_zero, List.set_cons_succ]))
        refine wpAnyH_ready (rs := [5, 7]) (by kernel_rfl) (by simp) (AllReadyH.cons rfl (fun K hK => ?_) (AllReadyH.cons rfl (fun K hK => ?_) AllReadyH.nil))
        · go_simp
          go_at_call 10; refine (BK.out _ HX).mono ?_; rintro e wk3 ⟨rfl, hbq⟩
          have HX := HX.below hbq
          have H7 := H7.below hbq
          have HR := HR.below hbq
          have H9 := H9.below hbq
          have HT := HT.later hbq
          clear hbq
          (refine hK.out _ _ (⟨HT.a.1, HT.b.1, H7.1⟩) (fun hHeld => ?_); clear hK K; (try simp only [Act.put, List.setIfInBounds_toArray, List.set_cons_zero, List.set_cons_succ]))
          refine wpAnyH_ready (rs := [6, 7]) (by kernel_rfl) (by simp) (AllReadyH.cons rfl (fun K hK => ?_) (AllReadyH.cons rfl (fun K hK => ?_) AllReadyH.nil))
          · go_simp
            go_at_call 14; refine (AP2.out _ _ _ _ _ _ _ HT.low HX.back).mono ?_; rintro e wk4 ⟨y0, y1, y2, rfl, hy, hbq⟩
            obtain ⟨sa0, sc0, rfl⟩ := hy.r0.form
            obtain ⟨sa1, sc1, rfl⟩ := hy.r1.form
            obtain ⟨sa2, sc2, rfl⟩ := hy.r2.form
            have HX := HX.below hbq
            have H7 := H7.below hbq
            have HR := HR.below hbq
            have H9 := H9.below hbq
            have HT := HT.later hbq
            have HS := hy
            clear hy
            clear hbq
            (refine hK.out _ _ (⟨HT.a.1, HT.b.1, H7.1⟩) (fun hHeld => ?_); clear hK K; (try simp only [Act.put, List.setIfInBounds_toArray, List.set_cons_zero, List.set_cons_succ]))
            (refine held_call 7 rfl (by kernel_rfl) (fun K hK => ?_); go_simp)
            obtain ⟨b8, hb8⟩ : ∃ b, b = wk4.heap.size := ⟨_, rfl⟩
            obtain ⟨wk5, hwn⟩ : ∃ V, V = wk4.alloc (.cells #[.slice none 0 0, .slice none 0 0, .slice none 0 0, .slice none 0 0] 26) := ⟨_, rfl⟩
            rw [← hwn, ← hb8]
            have hbq : Below wk4.heap.size wk4 wk5 := by rw [hwn]; exact (Below.refl _ _).alloc (Nat.le_refl _) _
            have H8 : Blk wk5 b8 #[.slice none 0 0, .slice none 0 0, .slice none 0 0, .slice none 0 0] := by rw [hwn, hb8]; exact Blk.new _ _ _
            have lb8 : b7 < b8 := by rw [hb8]; exact H7.2.2
            have hne : b9 < b8 := by rw [hb8]; exact H9.2.2
            have HX := HX.below hbq
            have H7 := H7.below hbq
            have HR := HR.below hbq
            have HS := HS.below hbq
            have H9 := H9.below hbq
            have HT := HT.later hbq
            clear hbq hwn hb8
            (refine hK.out _ _ (⟨HT.a.1, HT.b.1, H7.1⟩) (fun hHeld => ?_); clear hK K; (try simp only [Act.put, List.setIfInBounds_toArray, List.set_cons_zero, List.set_cons_succ]))
            have Hc := H8
            obtain ⟨cs, fs, zs⟩ := Hc
            (refine held_call 9 rfl (by kernel_rfl) (fun K hK => ?_); go_simp)
            clear cs fs zs
            obtain ⟨wn, hwn⟩ : ∃ W, W = puts wk5 b8 0 [.slice ra0 l2.length rc0, .slice ra1 g2.length rc1, .slice ra2 h2.length rc2, .slice va3 q1.length vc3] := ⟨_, rfl⟩
            have hch : ((((wk5.setCell ⟨b8, 0, none⟩ (.slice ra0 l2.length rc0)).setCell ⟨b8, 1, none⟩ (.slice ra1 g2.length rc1)).setCell ⟨b8, 2, none⟩ (.slice ra2 h2.length rc2)).setCell ⟨b8, 3, none⟩ (.slice va3 q1.length vc3)) = wn := hwn.symm
            rw [hch]
            clear hch
            have HBS : BlkS wk5 b8 4 := ⟨_, H8, rfl, by simp [isSl]⟩
            have HT := HT.puts (g := b8) (by omega) [.slice ra0 l2.length rc0, .slice ra1 g2.length rc1, .slice ra2 h2.length rc2, .slice va3 q1.length vc3]
            have HX := HX.puts [.slice ra0 l2.length rc0, .slice ra1 g2.length rc1, .slice ra2 h2.length rc2, .slice va3 q1.length vc3] HBS (by simp) (by simp [isSl])
            have HR := HR.puts [.slice ra0 l2.length rc0, .slice ra1 g2.length rc1, .slice ra2 h2.length rc2, .slice va3 q1.length vc3] HBS (by simp) (by simp [isSl])
            have HS := HS.puts [.slice ra0 l2.length rc0, .slice ra1 g2.length rc1, .slice ra2 h2.length rc2, .slice va3 q1.length vc3] HBS (by simp) (by simp [isSl])
            have H7 := H7.puts_far (g := b8) (by omega) [.slice ra0 l2.length rc0, .slice ra1 g2.length rc1, .slice ra2 h2.length rc2, .slice va3 q1.length vc3] 0 wk5
            have H8 := H8.four (.slice ra0 l2.length rc0) (.slice ra1 g2.length rc1) (.slice ra2 h2.length rc2) (.slice va3 q1.length vc3)
            have H9 := H9.puts_far (g := b8) (by omega) [.slice ra0 l2.length rc0, .slice ra1 g2.length rc1, .slice ra2 h2.length rc2, .slice va3 q1.length vc3] 0 wk5
            rw [← hwn] at HT HX HR HS H7 H8 H9
            clear hwn HBS
            (refine hK.out _ _ (⟨HT.a.1, HT.b.1, H7.1⟩) (fun hHeld => ?_); clear hK K; (try simp only [Act.put, List.setIfInBounds_toArray, List.set_cons_zero, List.set_cons_succ]))
            generalize wn = wn8 at *
            have Hc := H9
            obtain ⟨cs, fs, zs⟩ := Hc
            (refine held_call 10 rfl (by kernel_rfl) (fun K hK => ?_); go_simp)
            clear cs fs zs
            obtain ⟨wn, hwn⟩ : ∃ W, W = puts wn8 b9 0 [.slice sa0 l1.length sc0, .slice sa1 g1.length sc1, .slice sa2 h1.length sc2, .slice ua3 q2.length uc3] := ⟨_, rfl⟩
            have hch : ((((wn8.setCell ⟨b9, 0, none⟩ (.slice sa0 l1.length sc0)).setCell ⟨b9, 1, none⟩ (.slice sa1 g1.length sc1)).setCell ⟨b9, 2, none⟩ (.slice sa2 h1.length sc2)).setCell ⟨b9, 3, none⟩ (.slice ua3 q2.length uc3)) = wn := hwn.symm
            rw [hch]
            clear hch
            have HBS : BlkS wn8 b9 4 := ⟨_, H9, rfl, by simp [isSl]⟩
            have HT := HT.puts (g := b9) (by omega) [.slice sa0 l1.length sc0, .slice sa1 g1.length sc1, .slice sa2 h1.length sc2, .slice ua3 q2.length uc3]
            have HX := HX.puts [.slice sa0 l1.length sc0, .slice sa1 g1.length sc1, .slice sa2 h1.length sc2, .slice ua3 q2.length uc3] HBS (by simp) (by simp [isSl])
            have HR := HR.puts [.slice sa0 l1.length sc0, .slice sa1 g1.length sc1, .slice sa2 h1.length sc2, .slice ua3 q2.length uc3] HBS (by simp) (by simp [isSl])
            have HS := HS.puts [.slice sa0 l1.length sc0, .slice sa1 g1.length sc1, .slice sa2 h1.length sc2, .slice ua3 q2.length uc3] HBS (by simp) (by simp [isSl])
            have H7 := H7.puts_far (g := b9) (by omega) [.slice sa0 l1.length sc0, .slice sa1 g1.length sc1, .slice sa2 h1.length sc2, .slice ua3 q2.length uc3] 0 wn8
            have H9 := H9.four (.slice sa0 l1.length sc0) (.slice sa1 g1.length sc1) (.slice sa2 h1.length sc2) (.slice ua3 q2.length uc3)
            have H8 := H8.puts_far (g := b9) (by omega) [.slice sa0 l1.length sc0, .slice sa1 g1.length sc1, .slice sa2 h1.length sc2, .slice ua3 q2.length uc3] 0 wn8
            rw [← hwn] at HT HX HR HS H7 H8 H9
            clear hwn HBS
            (refine hK.out _ _ (⟨HT.a.1, HT.b.1, H7.1⟩) (fun hHeld => ?_); clear hK K; (try simp only [Act.put, List.setIfInBounds_toArray, List.set_cons_zero, List.set_cons_succ]))
            refine wpAnyH_done (by kernel_rfl) ?_ _
            go_wp2_with fail
            go_meet
            exact ⟨b8, b9, ra0, rc0, sa0, sc0, ra1, rc1, sa1, sc1, ra2, rc2, sa2, sc2, rfl, rfl, by omega, by omega, by omega, Lib.hid ⟨HT, H7, H8, H9, HX, HR, HS⟩⟩
          · go_simp
            obtain ⟨b8, hb8⟩ : ∃ b, b = wk3.heap.size := ⟨_, rfl⟩
            obtain ⟨wk4, hwn⟩ : ∃ V, V = wk3.alloc (.cells #[.slice none 0 0, .slice none 0 0, .slice none 0 0, .slice none 0 0] 26) := ⟨_, rfl⟩
            rw [← hwn, ← hb8]
            have hbq : Below wk3.heap.size wk3 wk4 := by rw [hwn]; exact (Below.refl _ _).alloc (Nat.le_refl _) _
            have H8 : Blk wk4 b8 #[.slice none 0 0, .slice none 0 0, .slice none 0 0, .slice none 0 0] := by rw [hwn, hb8]; exact Blk.new _ _ _
            have lb8 : b7 < b8 := by rw [hb8]; exact H7.2.2
            have hne : b9 < b8 := by rw [hb8]; exact H9.2.2
            have HX := HX.below hbq
            have H7 := H7.below hbq
            have HR := HR.below hbq
            have H9 := H9.below hbq
            have HT := HT.later hbq
            clear hbq hwn hb8
            (refine hK.out _ _ (⟨HT.a.1, HT.b.1, H7.1⟩) (fun hHeld => ?_); clear hK K; (try simp only [Act.put, List.setIfInBounds_toArray, List.set_cons_zero, List.set_cons_succ]))
            (refine held_call 6 rfl (by kernel_rfl) (fun K hK => ?_); go_simp)
            go_at_call 14; refine (AP2.out _ _ _ _ _ _ _ HT.low HX.back).mono ?_; rintro e wk5 ⟨y0, y1, y2, rfl, hy, hbq⟩
            obtain ⟨sa0, sc0, rfl⟩ := hy.r0.form
            obtain ⟨sa1, sc1, rfl⟩ := hy.r1.form
            obtain ⟨sa2, sc2, rfl⟩ := hy.r2.form
            have HX := HX.below hbq
            have H7 := H7.below hbq
            have HR := HR.below hbq
            have H8 := H8.below hbq
            have H9 := H9.below hbq
            have HT := HT.later hbq
            have HS := hy
            clear hy
            clear hbq
            (refine hK.out _ _ (⟨HT.a.1, HT.b.1, H7.1⟩) (fun hHeld => ?_); clear hK K; (try simp only [Act.put, List.setIfInBounds_toArray, List.set_cons_zero, List.set_cons_succ]))
            have Hc := H8
            obtain ⟨cs, fs, zs⟩ := Hc
            (refine held_call 9 rfl (by kernel_rfl) (fun K hK => ?_); go_simp)
            clear cs fs zs
            obtain ⟨wn, hwn⟩ : ∃ W, W = puts wk5 b8 0 [.slice ra0 l2.length rc0, .slice ra1 g2.length rc1, .slice ra2 h2.length rc2, .slice va3 q1.length vc3] := ⟨_, rfl⟩
            have hch : ((((wk5.setCell ⟨b8, 0, none⟩ (.slice ra0 l2.length rc0)).setCell ⟨b8, 1, none⟩ (.slice ra1 g2.length rc1)).setCell ⟨b8, 2, none⟩ (.slice ra2 h2.length rc2)).setCell ⟨b8, 3, none⟩ (.slice va3 q1.length vc3)) = wn := hwn.symm
            rw [hch]
            clear hch
            have HBS : BlkS wk5 b8 4 := ⟨_, H8, rfl, by simp [isSl]⟩
            have HT := HT.puts (g := b8) (by omega) [.slice ra0 l2.length rc0, .slice ra1 g2.length rc1, .slice ra2 h2.length rc2, .slice va3 q1.length vc3]
            have HX := HX.puts [.slice ra0 l2.length rc0, .slice ra1 g2.length rc1, .slice ra2 h2.length rc2, .slice va3 q1.length vc3] HBS (by simp) (by simp [isSl])
            have HR := HR.puts [.slice ra0 l2.length rc0, .slice ra1 g2.length rc1, .slice ra2 h2.length rc2, .slice va3 q1.length vc3] HBS (by simp) (by simp [isSl])
            have HS := HS.puts [.slice ra0 l2.length rc0, .slice ra1 g2.length rc1, .slice ra2 h2.length rc2, .slice va3 q1.length vc3] HBS (by simp) (by simp [isSl])
            have H7 := H7.puts_far (g := b8) (by omega) [.slice ra0 l2.length rc0, .slice ra1 g2.length rc1, .slice ra2 h2.length rc2, .slice va3 q1.length vc3] 0 wk5
            have H8 := H8.four (.slice ra0 l2.length rc0) (.slice ra1 g2.length rc1) (.slice ra2 h2.length rc2) (.slice va3 q1.length vc3)
            have H9 := H9.puts_far (g := b8) (by omega) [.slice ra0 l2.length rc0, .slice ra1 g2.length rc1, .slice ra2 h2.length rc2, .slice va3 q1.length vc3] 0 wk5
            rw [← hwn] at HT HX HR HS H7 H8 H9
            clear hwn HBS
            (refine hK.out _ _ (⟨HT.a.1, HT.b.1, H7.1⟩) (fun hHeld => ?_); clear hK K; (try simp only [Act.put, List.setIfInBounds_toArray, List.set_cons_zero, List.set_cons_succ]))
            generalize wn = wn8 at *
            have Hc := H9
            obtain ⟨cs, fs, zs⟩ := Hc
            (refine held_call 10 rfl (by kernel_rfl) (fun K hK => ?_); go_simp)
            clear cs fs zs
            obtain ⟨wn, hwn⟩ : ∃ W, W = puts wn8 b9 0 [.slice sa0 l1.length sc0, .slice sa1 g1.length sc1, .slice sa2 h1.length sc2, .slice ua3 q2.length uc3] := ⟨_, rfl⟩
            have hch : ((((wn8.setCell ⟨b9, 0, none⟩ (.slice sa0 l1.length sc0)).setCell ⟨b9, 1, none⟩ (.slice sa1 g1.length sc1)).setCell ⟨b9, 2, none⟩ (.slice sa2 h1.length sc2)).setCell ⟨b9, 3, none⟩ (.slice ua3 q2.length uc3)) = wn := hwn.symm
            rw [hch]
            clear hch
            have HBS : BlkS wn8 b9 4 := ⟨_, H9, rfl, by simp [isSl]⟩
            have HT := HT.puts (g := b9) (by omega) [.slice sa0 l1.length sc0, .slice sa1 g1.length sc1, .slice sa2 h1.length sc2, .slice ua3 q2.length uc3]
            have HX := HX.puts [.slice sa0 l1.length sc0, .slice sa1 g1.length sc1, .slice sa2 h1.length sc2, .slice ua3 q2.length uc3] HBS (by simp) (by simp [isSl])
            have HR := HR.puts [.slice sa0 l1.length sc0, .slice sa1 g1.length sc1, .slice sa2 h1.length sc2, .slice ua3 q2.length uc3] HBS (by simp) (by simp [isSl])
            have HS := HS.puts [.slice sa0 l1.length sc0, .slice sa1 g1.length sc1, .slice sa2 h1.length sc2, .slice ua3 q2.length uc3] HBS (by simp) (by simp [isSl])
            have H7 := H7.puts_far (g := b9) (by omega) [.slice sa0 l1.length sc0, .slice sa1 g1.length sc1, .slice sa2 h1.length sc2, .slice ua3 q2.length uc3] 0 wn8
            have H9 := H9.four (.slice sa0 l1.length sc0) (.slice sa1 g1.length sc1) (.slice sa2 h1.length sc2) (.slice ua3 q2.length uc3)
            have H8 := H8.puts_far (g := b9) (by omega) [.slice sa0 l1.length sc0, .slice sa1 g1.length sc1, .slice sa2 h1.length sc2, .slice ua3 q2.length uc3] 0 wn8
            rw [← hwn] at HT HX HR HS H7 H8 H9
            clear hwn HBS
            (refine hK.out _ _ (⟨HT.a.1, HT.b.1, H7.1⟩) (fun hHeld => ?_); clear hK K; (try simp only [Act.put, List.setIfInBounds_toArray, List.set_cons_zero, List.set_cons_succ]))
            refine wpAnyH_done (by kernel_rfl) ?_ _
            go_wp2_with fail
            go_meet
            exact ⟨b8, b9, ra0, rc0, sa0, sc0, ra1, rc1, sa1, sc1, ra2, rc2, sa2, sc2, rfl, rfl, by omega, by omega, by omega, Lib.hid ⟨HT, H7, H8, H9, HX, HR, HS⟩⟩
        · go_simp
          obtain ⟨b8, hb8⟩ : ∃ b, b = wk2.heap.size := ⟨_, rfl⟩
          obtain ⟨wk3, hwn⟩ : ∃ V, V = wk2.alloc (.cells #[.slice none 0 0, .slice none 0 0, .slice none 0 0, .slice none 0 0] 26) := ⟨_, rfl⟩
          rw [← hwn, ← hb8]
          have hbq : Below wk2.heap.size wk2 wk3 := by rw [hwn]; exact (Below.refl _ _).alloc (Nat.le_refl _) _
          have H8 : Blk wk3 b8 #[.slice none 0 0, .slice none 0 0, .slice none 0 0, .slice none 0 0] := by rw [hwn, hb8]; exact Blk.new _ _ _
          have lb8 : b7 < b8 := by rw [hb8]; exact H7.2.2
          have hne : b9 < b8 := by rw [hb8]; exact H9.2.2
          have HX := HX.below hbq
          have H7 := H7.below hbq
          have HR := HR.below hbq
          have H9 := H9.below hbq
          have HT := HT.later hbq
          clear hbq hwn hb8
          (refine hK.out _ _ (⟨HT.a.1, HT.b.1, H7.1⟩) (fun hHeld => ?_); clear hK K; (try simp only [Act.put, List.setIfInBounds_toArray, List.set_cons_zero, List.set_cons_succ]))
          (refine held_call 5 rfl (by kernel_rfl) (fun K hK => ?_); go_simp)
          go_at_call 10; refine (BK.out _ HX).mono ?_; rintro e wk4 ⟨rfl, hbq⟩
          have HX := HX.below hbq
          have H7 := H7.below hbq
          have HR := HR.below hbq
          have H8 := H8.below hbq
          have H9 := H9.below hbq
          have HT := HT.later hbq
          clear hbq
          (refine hK.out _ _ (⟨HT.a.1, HT.b.1, H7.1⟩) (fun hHeld => ?_); clear hK K; (try simp only [Act.put, List.setIfInBounds_toArray, List.set_cons_zero, List.set_cons_succ]))
          (refine held_call 6 rfl (by kernel_rfl) (fun K hK => ?_); go_simp)
          go_at_call 14; refine (AP2.out _ _ _ _ _ _ _ HT.low HX.back).mono ?_; rintro e wk5 ⟨y0, y1, y2, rfl, hy, hbq⟩
          obtain ⟨sa0, sc0, rfl⟩ := hy.r0.form
          obtain ⟨sa1, sc1, rfl⟩ := hy.r1.form
          obtain ⟨sa2, sc2, rfl⟩ := hy.r2.form
          have HX := HX.below hbq
          have H7 := H7.below hbq
          have HR := HR.below hbq
          have H8 := H8.below hbq
          have H9 := H9.below hbq
          have HT := HT.later hbq
          have HS := hy
          clear hy
          clear hbq
          (refine hK.out _ _ (⟨HT.a.1, HT.b.1, H7.1⟩) (fun hHeld => ?_); clear hK K; (try simp only [Act.put, List.setIfInBounds_toArray, List.set_cons_zero, List.set_cons_succ]))
          have Hc := H8
          obtain ⟨cs, fs, zs⟩ := Hc
          (refine held_call 9 rfl (by kernel_rfl) (fun K hK => ?_); go_simp)
          clear cs fs zs
          obtain ⟨wn, hwn⟩ : ∃ W, W = puts wk5 b8 0 [.slice ra0 l2.length rc0, .slice ra1 g2.length rc1, .slice ra2 h2.length rc2, .slice va3 q1.length vc3] := ⟨_, rfl⟩
          have hch : ((((wk5.setCell ⟨b8, 0, none⟩ (.slice ra0 l2.length rc0)).setCell ⟨b8, 1, none⟩ (.slice ra1 g2.length rc1)).setCell ⟨b8, 2, none⟩ (.slice ra2 h2.length rc2)).setCell ⟨b8, 3, none⟩ (.slice va3 q1.length vc3)) = wn := hwn.symm
          rw [hch]
          clear hch
          have HBS : BlkS wk5 b8 4 := ⟨_, H8, rfl, by simp [isSl]⟩
          have HT := HT.puts (g := b8) (by omega) [.slice ra0 l2.length rc0, .slice ra1 g2.length rc1, .slice ra2 h2.length rc2, .slice va3 q1.length vc3]
          have HX := HX.puts [.slice ra0 l2.length rc0, .slice ra1 g2.length rc1, .slice ra2 h2.length rc2, .slice va3 q1.length vc3] HBS (by simp) (by simp [isSl])
          have HR := HR.puts [.slice ra0 l2.length rc0, .slice ra1 g2.length rc1, .slice ra2 h2.length rc2, .slice va3 q1.length vc3] HBS (by simp) (by simp [isSl])
          have HS := HS.puts [.slice ra0 l2.length rc0, .slice ra1 g2.length rc1, .slice ra2 h2.length rc2, .slice va3 q1.length vc3] HBS (by simp) (by simp [isSl])
          have H7 := H7.puts_far (g := b8) (by omega) [.slice ra0 l2.length rc0, .slice ra1 g2.length rc1, .slice ra2 h2.length rc2, .slice va3 q1.length vc3] 0 wk5
          have H8 := H8.four (.slice ra0 l2.length rc0) (.slice ra1 g2.length rc1) (.slice ra2 h2.length rc2) (.slice va3 q1.length vc3)
          have H9 := H9.puts_far (g := b8) (by omega) [.slice ra0 l2.length rc0, .slice ra1 g2.length rc1, .slice ra2 h2.length rc2, .slice va3 q1.length vc3] 0 wk5
          rw [← hwn] at HT HX HR HS H7 H8 H9
          clear hwn HBS
          (refine hK.out _ _ (⟨HT.a.1, HT.b.1, H7.1⟩) (fun hHeld => ?_); clear hK K; (try simp only [Act.put, List.setIfInBounds_toArray, List.set_cons_zero, List.set_cons_succ]))
          generalize wn = wn8 at *
          have Hc := H9
          obtain ⟨cs, fs, zs⟩ := Hc
          (refine held_call 10 rfl (by kernel_rfl) (fun K hK => ?_); go_simp)
          clear cs fs zs
          obtain ⟨wn, hwn⟩ : ∃ W, W = puts wn8 b9 0 [.slice sa0 l1.length sc0, .slice sa1 g1.length sc1, .slice sa2 h1.length sc2, .slice ua3 q2.length uc3] := ⟨_, rfl⟩
          have hch : ((((wn8.setCell ⟨b9, 0, none⟩ (.slice sa0 l1.length sc0)).setCell ⟨b9, 1, none⟩ (.slice sa1 g1.length sc1)).setCell ⟨b9, 2, none⟩ (.slice sa2 h1.length sc2)).setCell ⟨b9, 3, none⟩ (.slice ua3 q2.length uc3)) = wn := hwn.symm
          rw [hch]
          clear hch
          have HBS : BlkS wn8 b9 4 := ⟨_, H9, rfl, by simp [isSl]⟩
          have HT := HT.puts (g := b9) (by omega) [.slice sa0 l1.length sc0, .slice sa1 g1.length sc1, .slice sa2 h1.length sc2, .slice ua3 q2.length uc3]
          have HX := HX.puts [.slice sa0 l1.length sc0, .slice sa1 g1.length sc1, .slice sa2 h1.length sc2, .slice ua3 q2.length uc3] HBS (by simp) (by simp [isSl])
          have HR := HR.puts [.slice sa0 l1.length sc0, .slice sa1 g1.length sc1, .slice sa2 h1.length sc2, .slice ua3 q2.length uc3] HBS (by simp) (by simp [isSl])
          have HS := HS.puts [.slice sa0 l1.length sc0, .slice sa1 g1.length sc1, .slice sa2 h1.length sc2, .slice ua3 q2.length uc3] HBS (by simp) (by simp [isSl])
          have H7 := H7.puts_far (g := b9) (by omega) [.slice sa0 l1.length sc0, .slice sa1 g1.length sc1, .slice sa2 h1.length sc2, .slice ua3 q2.length uc3] 0 wn8
          have H9 := H9.four (.slice sa0 l1.length sc0) (.slice sa1 g1.length sc1) (.slice sa2 h1.length sc2) (.slice ua3 q2.length uc3)
          have H8 := H8.puts_far (g := b9) (by omega) [.slice sa0 l1.length sc0, .slice sa1 g1.length sc1, .slice sa2 h1.length sc2, .slice ua3 q2.length uc3] 0 wn8
          rw [← hwn] at HT HX HR HS H7 H8 H9
          clear hwn HBS
          (refine hK.out _ _ (⟨HT.a.1, HT.b.1, H7.1⟩) (fun hHeld => ?_); clear hK K; (try simp only [Act.put, List.setIfInBounds_toArray, List.set_cons_zero, List.set_cons_succ]))
          refine wpAnyH_done (by kernel_rfl) ?_ _
          go_wp2_with fail
          go_meet
          exact ⟨b8, b9, ra0, rc0, sa0, sc0, ra1, rc1, sa1, sc1, ra2, rc2, sa2, sc2, rfl, rfl, by omega, by omega, by omega, Lib.hid ⟨HT, H7, H8, H9, HX, HR, HS⟩⟩
    · go_simp
      obtain ⟨b8, hb8⟩ : ∃ b, b = wk.heap.size := ⟨_, rfl⟩
      obtain ⟨wk1, hwn⟩ : ∃ V, V = wk.alloc (.cells #[.slice none 0 0, .slice none 0 0, .slice none 0 0, .slice none 0 0] 26) := ⟨_, rfl⟩
      rw [← hwn, ← hb8]
      have hbq : Below wk.heap.size wk wk1 := by rw [hwn]; exact (Below.refl _ _).alloc (Nat.le_refl _) _
      have H8 : Blk wk1 b8 #[.slice none 0 0, .slice none 0 0, .slice none 0 0, .slice none 0 0] := by rw [hwn, hb8]; exact Blk.new _ _ _
      have lb8 : b7 < b8 := by rw [hb8]; exact H7.2.2
      have HX := HX.below hbq
      have H7 := H7.below hbq
      have HT := HT.later hbq
      clear hbq hwn hb8
      (refine hK.out _ _ (⟨HT.a.1, HT.b.1, H7.1⟩) (fun hHeld => ?_); clear hK K; (try simp only [Act.put, List.setIfInBounds_toArray, List.set_cons_zero, List.set_cons_succ]))
      refine wpAnyH_ready (rs := [2, 8]) (by kernel_rfl) (by simp) (AllReadyH.cons rfl (fun K hK => ?_) (AllReadyH.cons rfl (fun K hK => ?_) AllReadyH.nil))
      · go_simp
        go_at_call 14; refine (AP1.out _ _ _ _ _ _ _ HT.low HX).mono ?_; rintro e wk2 ⟨y0, y1, y2, rfl, hy, hbq⟩
        obtain ⟨ra0, rc0, rfl⟩ := hy.r0.form
        obtain ⟨ra1, rc1, rfl⟩ := hy.r1.form
        obtain ⟨ra2, rc2, rfl⟩ := hy.r2.form
        have HX := HX.below hbq
        have H7 := H7.below hbq
        have H8 := H8.below hbq
        have HT := HT.later hbq
        have HR := hy
        clear hy
        clear hbq
        (refine hK.out _ _ (⟨HT.a.1, HT.b.1, H7.1⟩) (fun hHeld => ?_); clear hK K; (try simp only [Act.put, List.setIfInBounds_toArray, List.set_cons_zero, List.set_cons_succ]))
        refine wpAnyH_ready (rs := [5, 8]) (by kernel_rfl) (by simp) (AllReadyH.cons rfl (fun K hK => ?_) (AllReadyH.cons rfl (fun K hK => ?_) AllReadyH.nil))
        · go_simp
          go_at_call 10; refine (BK.out _ HX).mono ?_; rintro e wk3 ⟨rfl, hbq⟩
          have HX := HX.below hbq
          have H7 := H7.below hbq
          have HR := HR.below hbq
          have H8 := H8.below hbq
          have HT := HT.later hbq
          clear hbq
          (refine hK.out _ _ (⟨HT.a.1, HT.b.1, H7.1⟩) (fun hHeld => ?_); clear hK K; (try simp only [Act.put, List.setIfInBounds_toArray, List.set_cons_zero, List.set_cons_succ]))
          refine wpAnyH_ready (rs := [6, 8]) (by kernel_rfl) (by simp) (AllReadyH.cons rfl (fun K hK => ?_) (AllReadyH.cons rfl (fun K hK => ?_) AllReadyH.nil))
          · go_simp
            go_at_call 14; refine (AP2.out _ _ _ _ _ _ _ HT.low HX.back).mono ?_; rintro e wk4 ⟨y0, y1, y2, rfl, hy, hbq⟩
            obtain ⟨sa0, sc0, rfl⟩ := hy.r0.form
            obtain ⟨sa1, sc1, rfl⟩ := hy.r1.form
            obtain ⟨sa2, sc2, rfl⟩ := hy.r2.form
            have HX := HX.below hbq
            have H7 := H7.below hbq
            have HR := HR.below hbq
            have H8 := H8.below hbq
            have HT := HT.later hbq
            have HS := hy
            clear hy
            clear hbq
            (refine hK.out _ _ (⟨HT.a.1, HT.b.1, H7.1⟩) (fun hHeld => ?_); clear hK K; (try simp only [Act.put, List.setIfInBounds_toArray, List.set_cons_zero, List.set_cons_succ]))
            (refine held_call 8 rfl (by kernel_rfl) (fun K hK => ?_); go_simp)
            obtain ⟨b9, hb9⟩ : ∃ b, b = wk4.heap.size := ⟨_, rfl⟩
            obtain ⟨wk5, hwn⟩ : ∃ V, V = wk4.alloc (.cells #[.slice none 0 0, .slice none 0 0, .slice none 0 0, .slice none 0 0] 26) := ⟨_, rfl⟩
            rw [← hwn, ← hb9]
            have hbq : Below wk4.heap.size wk4 wk5 := by rw [hwn]; exact (Below.refl _ _).alloc (Nat.le_refl _) _
            have H9 : Blk wk5 b9 #[.slice none 0 0, .slice none 0 0, .slice none 0 0, .slice none 0 0] := by rw [hwn, hb9]; exact Blk.new _ _ _
            have lb9 : b7 < b9 := by rw [hb9]; exact H7.2.2
            have hne : b8 < b9 := by rw [hb9]; exact H8.2.2
            have HX := HX.below hbq
            have H7 := H7.below hbq
            have HR := HR.below hbq
            have HS := HS.below hbq
            have H8 := H8.below hbq
            have HT := HT.later hbq
            clear hbq hwn hb9
            (refine hK.out _ _ (⟨HT.a.1, HT.b.1, H7.1⟩) (fun hHeld => ?_); clear hK K; (try simp only [Act.put, List.setIfInBounds_toArray, List.set_cons_zero, List.set_cons_succ]))
            have Hc := H8
            obtain ⟨cs, fs, zs⟩ := Hc
            (refine held_call 9 rfl (by kernel_rfl) (fun K hK => ?_); go_simp)
            clear cs fs zs
            obtain ⟨wn, hwn⟩ : ∃ W, W = puts wk5 b8 0 [.slice ra0 l2.length rc0, .slice ra1 g2.length rc1, .slice ra2 h2.length rc2, .slice va3 q1.length vc3] := ⟨_, rfl⟩
            have hch : ((((wk5.setCell ⟨b8, 0, none⟩ (.slice ra0 l2.length rc0)).setCell ⟨b8, 1, none⟩ (.slice ra1 g2.length rc1)).setCell ⟨b8, 2, none⟩ (.slice ra2 h2.length rc2)).setCell ⟨b8, 3, none⟩ (.slice va3 q1.length vc3)) = wn := hwn.symm
            rw [hch]
            clear hch
            have HBS : BlkS wk5 b8 4 := ⟨_, H8, rfl, by simp [isSl]⟩
            have HT := HT.puts (g := b8) (by omega) [.slice ra0 l2.length rc0, .slice ra1 g2.length rc1, .slice ra2 h2.length rc2, .slice va3 q1.length vc3]
            have HX := HX.puts [.slice ra0 l2.length rc0, .slice ra1 g2.length rc1, .slice ra2 h2.length rc2, .slice va3 q1.length vc3] HBS (by simp) (by simp [isSl])
            have HR := HR.puts [.slice ra0 l2.length rc0, .slice ra1 g2.length rc1, .slice ra2 h2.length rc2, .slice va3 q1.length vc3] HBS (by simp) (by simp [isSl])
            have HS := HS.puts [.slice ra0 l2.length rc0, .slice ra1 g2.length rc1, .slice ra2 h2.length rc2, .slice va3 q1.length vc3] HBS (by simp) (by simp [isSl])
            have H7 := H7.puts_far (g := b8) (by omega) [.slice ra0 l2.length rc0, .slice ra1 g2.length rc1, .slice ra2 h2.length rc2, .slice va3 q1.length vc3] 0 wk5
            have H8 := H8.four (.slice ra0 l2.length rc0) (.slice ra1 g2.length rc1) (.slice ra2 h2.length rc2) (.slice va3 q1.length vc3)
            have H9 := H9.puts_far (g := b8) (by omega) [.slice ra0 l2.length rc0, .slice ra1 g2.length rc1, .slice ra2 h2.length rc2, .slice va3 q1.length vc3] 0 wk5
            rw [← hwn] at HT HX HR HS H7 H8 H9
            clear hwn HBS
            (refine hK.out _ _ (⟨HT.a.1, HT.b.1, H7.1⟩) (fun hHeld => ?_); clear hK K; (try simp only [Act.put, List.setIfInBounds_toArray, List.set_cons_zero, List.set_cons_succ]))
            generalize wn = wn8 at *
            have Hc := H9
            obtain ⟨cs, fs, zs⟩ := Hc
            (refine held_call 10 rfl (by kernel_rfl) (fun K hK => ?_); go_simp)
            clear cs fs zs
            obtain ⟨wn, hwn⟩ : ∃ W, W = puts wn8 b9 0 [.slice sa0 l1.length sc0, .slice sa1 g1.length sc1, .slice sa2 h1.length sc2, .slice ua3 q2.length uc3] := ⟨_, rfl⟩
            have hch : ((((wn8.setCell ⟨b9, 0, none⟩ (.slice sa0 l1.length sc0)).setCell ⟨b9, 1, none⟩ (.slice sa1 g1.length sc1)).setCell ⟨b9, 2, none⟩ (.slice sa2 h1.length sc2)).setCell ⟨b9, 3, none⟩ (.slice ua3 q2.length uc3)) = wn := hwn.symm
            rw [hch]
            clear hch
            have HBS : BlkS wn8 b9 4 := ⟨_, H9, rfl, by simp [isSl]⟩
            have HT := HT.puts (g := b9) (by omega) [.slice sa0 l1.length sc0, .slice sa1 g1.length sc1, .slice sa2 h1.length sc2, .slice ua3 q2.length uc3]
            have HX := HX.puts [.slice sa0 l1.length sc0, .slice sa1 g1.length sc1, .slice sa2 h1.length sc2, .slice ua3 q2.length uc3] HBS (by simp) (by simp [isSl])
            have HR := HR.puts [.slice sa0 l1.length sc0, .slice sa1 g1.length sc1, .slice sa2 h1.length sc2, .slice ua3 q2.length uc3] HBS (by simp) (by simp [isSl])
            have HS := HS.puts [.slice sa0 l1.length sc0, .slice sa1 g1.length sc1, .slice sa2 h1.length sc2, .slice ua3 q2.length uc3] HBS (by simp) (by simp [isSl])
            have H7 := H7.puts_far (g := b9) (by omega) [.slice sa0 l1.length sc0, .slice sa1 g1.length sc1, .slice sa2 h1.length sc2, .slice ua3 q2.length uc3] 0 wn8
            have H9 := H9.four (.slice sa0 l1.length sc0) (.slice sa1 g1.length sc1) (.slice sa2 h1.length sc2) (.slice ua3 q2.length uc3)
            have H8 := H8.puts_far (g := b9) (by omega) [.slice sa0 l1.length sc0, .slice sa1 g1.length sc1, .slice sa2 h1.length sc2, .slice ua3 q2.length uc3] 0 wn8
            rw [← hwn] at HT HX HR HS H7 H8 H9
            clear hwn HBS
            (refine hK.out _ _ (⟨HT.a.1, HT.b.1, H7.1⟩) (fun hHeld => ?_); clear hK K; (try simp only [Act.put, List.setIfInBounds_toArray, List.set_cons_zero, List.set_cons_succ]))
            refine wpAnyH_done (by kernel_rfl) ?_ _
            go_wp2_with fail
            go_meet
            exact ⟨b8, b9, ra0, rc0, sa0, sc0, ra1, rc1, sa1, sc1, ra2, rc2, sa2, sc2, rfl, rfl, by omega, by omega, by omega, Lib.hid ⟨HT, H7, H8, H9, HX, HR, HS⟩⟩
          · go_simp
            obtain ⟨b9, hb9⟩ : ∃ b, b = wk3.heap.size := ⟨_, rfl⟩
            obtain ⟨wk4, hwn⟩ : ∃ V, V = wk3.alloc (.cells #[.slice none 0 0, .slice none 0 0, .slice none 0 0, .slice none 0 0] 26) := ⟨_, rfl⟩
            rw [← hwn, ← hb9]
            have hbq : Below wk3.heap.size wk3 wk4 := by rw [hwn]; exact (Below.refl _ _).alloc (Nat.le_refl _) _
            have H9 : Blk wk4 b9 #[.slice none 0 0, .slice none 0 0, .slice none 0 0, .slice none 0 0] := by rw [hwn, hb9]; exact Blk.new _ _ _
            have lb9 : b7 < b9 := by rw [hb9]; exact H7.2.2
            have hne : b8 < b9 := by rw [hb9]; exact H8.2.2
            have HX := HX.below hbq
            have H7 := H7.below hbq
            have HR := HR.below hbq
            have H8 := H8.below hbq
            have HT := HT.later hbq
            clear hbq hwn hb9
            (refine hK.out _ _ (⟨HT.a.1, HT.b.1, H7.1⟩) (fun hHeld => ?_); clear hK K; (try simp only [Act.put, List.setIfInBounds_toArray, List.set_cons_zero, List.set_cons_succ]))
            (refine held_call 6 rfl (by kernel_rfl) (fun K hK => ?_); go_simp)
            go_at_call 14; refine (AP2.out _ _ _ _ _ _ _ HT.low HX.back).mono ?_; rintro e wk5 ⟨y0, y1, y2, rfl, hy, hbq⟩
            obtain ⟨sa0, sc0, rfl⟩ := hy.r0.form
            obtain ⟨sa1, sc1, rfl⟩ := hy.r1.form
            obtain ⟨sa2, sc2, rfl⟩ := hy.r2.form
            have HX := HX.below hbq
            have H7 := H7.below hbq
            have HR := HR.below hbq
            have H8 := H8.below hbq
            have H9 := H9.below hbq
            have HT := HT.later hbq
            have HS := hy
            clear hy
            clear hbq
            (refine hK.out _ _ (⟨HT.a.1, HT.b.1, H7.1⟩) (fun hHeld => ?_); clear hK K; (try simp only [Act.put, List.setIfInBounds_toArray, List.set_cons_zero, List.set_cons_succ]))
            have Hc := H8
            obtain ⟨cs, fs, zs⟩ := Hc
            (refine held_call 9 rfl (by kernel_rfl) (fun K hK => ?_); go_simp)
            clear cs fs zs
            obtain ⟨wn, hwn⟩ : ∃ W, W = puts wk5 b8 0 [.slice ra0 l2.length rc0, .slice ra1 g2.length rc1, .slice ra2 h2.length rc2, .slice va3 q1.length vc3] := ⟨_, rfl⟩
            have hch : ((((wk5.setCell ⟨b8, 0, none⟩ (.slice ra0 l2.length rc0)).setCell ⟨b8, 1, none⟩ (.slice ra1 g2.length rc1)).setCell ⟨b8, 2, none⟩ (.slice ra2 h2.length rc2)).setCell ⟨b8, 3, none⟩ (.slice va3 q1.length vc3)) = wn := hwn.symm
            rw [hch]
            clear hch
            have HBS : BlkS wk5 b8 4 := ⟨_, H8, rfl, by simp [isSl]⟩
            have HT := HT.puts (g := b8) (by omega) [.slice ra0 l2.length rc0, .slice ra1 g2.length rc1, .slice ra2 h2.length rc2, .slice va3 q1.length vc3]
            have HX := HX.puts [.slice ra0 l2.length rc0, .slice ra1 g2.length rc1, .slice ra2 h2.length rc2, .slice va3 q1.length vc3] HBS (by simp) (by simp [isSl])
            have HR := HR.puts [.slice ra0 l2.length rc0, .slice ra1 g2.length rc1, .slice ra2 h2.length rc2, .slice va3 q1.length vc3] HBS (by simp) (by simp [isSl])
            have HS := HS.puts [.slice ra0 l2.length rc0, .slice ra1 g2.length rc1, .slice ra2 h2.length rc2, .slice va3 q1.length vc3] HBS (by simp) (by simp [isSl])
            have H7 := H7.puts_far (g := b8) (by omega) [.slice ra0 l2.length rc0, .slice ra1 g2.length rc1, .slice ra2 h2.length rc2, .slice va3 q1.length vc3] 0 wk5
            have H8 := H8.four (.slice ra0 l2.length rc0) (.slice ra1 g2.length rc1) (.slice ra2 h2.length rc2) (.slice va3 q1.length vc3)
            have H9 := H9.puts_far (g := b8) (by omega) [.slice ra0 l2.length rc0, .slice ra1 g2.length rc1, .slice ra2 h2.length rc2, .slice va3 q1.length vc3] 0 wk5
            rw [← hwn] at HT HX HR HS H7 H8 H9
            clear hwn HBS
            (refine hK.out _ _ (⟨HT.a.1, HT.b.1, H7.1⟩) (fun hHeld => ?_); clear hK K; (try simp only [Act.put, List.setIfInBounds_toArray, List.set_cons_zero, List.set_cons_succ]))
            generalize wn = wn8 at *
            have Hc := H9
            obtain ⟨cs, fs, zs⟩ := Hc
            (refine held_call 10 rfl (by kernel_rfl) (fun K hK => ?_); go_simp)
            clear cs fs zs
            obtain ⟨wn, hwn⟩ : ∃ W, W = puts wn8 b9 0 [.slice sa0 l1.length sc0, .slice sa1 g1.length sc1, .slice sa2 h1.length sc2, .slice ua3 q2.length uc3] := ⟨_, rfl⟩
            have hch : ((((wn8.setCell ⟨b9, 0, none⟩ (.slice sa0 l1.length sc0)).setCell ⟨b9, 1, none⟩ (.slice sa1 g1.length sc1)).setCell ⟨b9, 2, none⟩ (.slice sa2 h1.length sc2)).setCell ⟨b9, 3, none⟩ (.slice ua3 q2.length uc3)) = wn := hwn.symm
            rw [hch]
            clear hch
            have HBS : BlkS wn8 b9 4 := ⟨_, H9, rfl, by simp [isSl]⟩
            have HT := HT.puts (g := b9) (by omega) [.slice sa0 l1.length sc0, .slice sa1 g1.length sc1, .slice sa2 h1.length sc2, .slice ua3 q2.length uc3]
            have HX := HX.puts [.slice sa0 l1.length sc0, .slice sa1 g1.length sc1, .slice sa2 h1.length sc2, .slice ua3 q2.length uc3] HBS (by simp) (by simp [isSl])
            have HR := HR.puts [.slice sa0 l1.length sc0, .slice sa1 g1.length sc1, .slice sa2 h1.length sc2, .slice ua3 q2.length uc3] HBS (by simp) (by simp [isSl])
            have HS := HS.puts [.slice sa0 l1.length sc0, .slice sa1 g1.length sc1, .slice sa2 h1.length sc2, .slice ua3 q2.length uc3] HBS (by simp) (by simp [isSl])
            have H7 := H7.puts_far (g := b9) (by omega) [.slice sa0 l1.length sc0, .slice sa1 g1.length sc1, .slice sa2 h1.length sc2, .slice ua3 q2.length uc3] 0 wn8
            have H9 := H9.four (.slice sa0 l1.length sc0) (.slice sa1 g1.length sc1) (.slice sa2 h1.length sc2) (.slice ua3 q2.length uc3)
            have H8 := H8.puts_far (g := b9) (by omega) [.slice sa0 l1.length sc0, .slice sa1 g1.length sc1, .slice sa2 h1.length sc2, .slice ua3 q2.length uc3] 0 wn8
            rw [← hwn] at HT HX HR HS H7 H8 H9
            clear hwn HBS
            (refine hK.out _ _ (⟨HT.a.1, HT.b.1, H7.1⟩) (fun hHeld => ?_); clear hK K; (try simp only [Act.put, List.setIfInBounds_toArray, List.set_cons_zero, List.set_cons_succ]))
            refine wpAnyH_done (by kernel_rfl) ?_ _
            go_wp2_with fail
            go_meet
            exact ⟨b8, b9, ra0, rc0, sa0, sc0, ra1, rc1, sa1, sc1, ra2, rc2, sa2, sc2, rfl, rfl, by omega, by omega, by omega, Lib.hid ⟨HT, H7, H8, H9, HX, HR, HS⟩⟩
        · go_simp
          obtain ⟨b9, hb9⟩ : ∃ b, b = wk2.heap.size := ⟨_, rfl⟩
          obtain ⟨wk3, hwn⟩ : ∃ V, V = wk2.alloc (.cells #[.slice none 0 0, .slice none 0 0, .slice none 0 0, .slice none 0 0] 26) := ⟨_, rfl⟩
          rw [← hwn, ← hb9]
          have hbq : Below wk2.heap.size wk2 wk3 := by rw [hwn]; exact (Below.refl _ _).alloc (Nat.le_refl _) _
          have H9 : Blk wk3 b9 #[.slice none 0 0, .slice none 0 0, .slice none 0 0, .slice none 0 0] := by rw [hwn, hb9]; exact Blk.new _ _ _
          have lb9 : b7 < b9 := by rw [hb9]; exact H7.2.2
          have hne : b8 < b9 := by rw [hb9]; exact H8.2.2
          have HX := HX.below hbq
          have H7 := H7.below hbq
          have HR := HR.below hbq
          have H8 := H8.below hbq
          have HT := HT.later hbq
          clear hbq hwn hb9
          (refine hK.out _ _ (⟨HT.a.1, HT.b.1, H7.1⟩) (fun hHeld => ?_); clear hK K; (try simp only [Act.put, List.setIfInBounds_toArray, List.set_cons_zero, List.set_cons_succ]))
          (refine held_call 5 rfl (by kernel_rfl) (fun K hK => ?_); go_simp)
          go_at_call 10; refine (BK.out _ HX).mono ?_; rintro e wk4 ⟨rfl, hbq⟩
          have HX := HX.below hbq
          have H7 := H7.below hbq
          have HR := HR.below hbq
          have H8 := H8.below hbq
          have H9 := H9.below hbq
          have HT := HT.later hbq
          clear hbq
          (refine hK.out _ _ (⟨HT.a.1, HT.b.1, H7.1⟩) (fun hHeld => ?_); clear hK K; (try simp only [Act.put, List.setIfInBounds_toArray, List.set_cons_zero, List.set_cons_succ]))
          (refine held_call 6 rfl (by kernel_rfl) (fun K hK => ?_); go_simp)
          go_at_call 14; refine (AP2.out _ _ _ _ _ _ _ HT.low HX.back).mono ?_; rintro e wk5 ⟨y0, y1, y2, rfl, hy, hbq⟩
          obtain ⟨sa0, sc0, rfl⟩ := hy.r0.form
          obtain ⟨sa1, sc1, rfl⟩ := hy.r1.form
          obtain ⟨sa2, sc2, rfl⟩ := hy.r2.form
          have HX := HX.below hbq
          have H7 := H7.below hbq
          have HR := HR.below hbq
          have H8 := H8.below hbq
          have H9 := H9.below hbq
          have HT := HT.later hbq
          have HS := hy
          clear hy
          clear hbq
          (refine hK.out _ _ (⟨HT.a.1, HT.b.1, H7.1⟩) (fun hHeld => ?_); clear hK K; (try simp only [Act.put, List.setIfInBounds_toArray, List.set_cons_zero, List.set_cons_succ]))
          have Hc := H8
          obtain ⟨cs, fs, zs⟩ := Hc
          (refine held_call 9 rfl (by kernel_rfl) (fun K hK => ?_); go_simp)
          clear cs fs zs
          obtain ⟨wn, hwn⟩ : ∃ W, W = puts wk5 b8 0 [.slice ra0 l2.length rc0, .slice ra1 g2.length rc1, .slice ra2 h2.length rc2, .slice va3 q1.length vc3] := ⟨_, rfl⟩
          have hch : ((((wk5.setCell ⟨b8, 0, none⟩ (.slice ra0 l2.length rc0)).setCell ⟨b8, 1, none⟩ (.slice ra1 g2.length rc1)).setCell ⟨b8, 2, none⟩ (.slice ra2 h2.length rc2)).setCell ⟨b8, 3, none⟩ (.slice va3 q1.length vc3)) = wn := hwn.symm
          rw [hch]
          clear hch
          have HBS : BlkS wk5 b8 4 := ⟨_, H8, rfl, by simp [isSl]⟩
          have HT := HT.puts (g := b8) (by omega) [.slice ra0 l2.length rc0, .slice ra1 g2.length rc1, .slice ra2 h2.length rc2, .slice va3 q1.length vc3]
          have HX := HX.puts [.slice ra0 l2.length rc0, .slice ra1 g2.length rc1, .slice ra2 h2.length rc2, .slice va3 q1.length vc3] HBS (by simp) (by simp [isSl])
          have HR := HR.puts [.slice ra0 l2.length rc0, .slice ra1 g2.length rc1, .slice ra2 h2.length rc2, .slice va3 q1.length vc3] HBS (by simp) (by simp [isSl])
          have HS := HS.puts [.slice ra0 l2.length rc0, .slice ra1 g2.length rc1, .slice ra2 h2.length rc2, .slice va3 q1.length vc3] HBS (by simp) (by simp [isSl])
          have H7 := H7.puts_far (g := b8) (by omega) [.slice ra0 l2.length rc0, .slice ra1 g2.length rc1, .slice ra2 h2.length rc2, .slice va3 q1.length vc3] 0 wk5
          have H8 := H8.four (.slice ra0 l2.length rc0) (.slice ra1 g2.length rc1) (.slice ra2 h2.length rc2) (.slice va3 q1.length vc3)
          have H9 := H9.puts_far (g := b8) (by omega) [.slice ra0 l2.length rc0, .slice ra1 g2.length rc1, .slice ra2 h2.length rc2, .slice va3 q1.length vc3] 0 wk5
          rw [← hwn] at HT HX HR HS H7 H8 H9
          clear hwn HBS
          (refine hK.out _ _ (⟨HT.a.1, HT.b.1, H7.1⟩) (fun hHeld => ?_); clear hK K; (try simp only [Act.put, List.setIfInBounds_toArray, List.set_cons_zero, List.set_cons_succ]))
          generalize wn = wn8 at *
          have Hc := H9
          obtain ⟨cs, fs, zs⟩ := Hc
          (refine held_call 10 rfl (by kernel_rfl) (fun K hK => ?_); go_simp)
          clear cs fs zs
          obtain ⟨wn, hwn⟩ : ∃ W, W = puts wn8 b9 0 [.slice sa0 l1.length sc0, .slice sa1 g1.length sc1, .slice sa2 h1.length sc2, .slice ua3 q2.length uc3] := ⟨_, rfl⟩
          have hch : ((((wn8.setCell ⟨b9, 0, none⟩ (.slice sa0 l1.length sc0)).setCell ⟨b9, 1, none⟩ (.slice sa1 g1.length sc1)).setCell ⟨b9, 2, none⟩ (.slice sa2 h1.length sc2)).setCell ⟨b9, 3, none⟩ (.slice ua3 q2.length uc3)) = wn := hwn.symm
          rw [hch]
          clear hch
          have HBS : BlkS wn8 b9 4 := ⟨_, H9, rfl, by simp [isSl]⟩
          have HT := HT.puts (g := b9) (by omega) [.slice sa0 l1.length sc0, .slice sa1 g1.length sc1, .slice sa2 h1.length sc2, .slice ua3 q2.length uc3]
          have HX := HX.puts [.slice sa0 l1.length sc0, .slice sa1 g1.length sc1, .slice sa2 h1.length sc2, .slice ua3 q2.length uc3] HBS (by simp) (by simp [isSl])
          have HR := HR.puts [.slice sa0 l1.length sc0, .slice sa1 g1.length sc1, .slice sa2 h1.length sc2, .slice ua3 q2.length uc3] HBS (by simp) (by simp [isSl])
          have HS := HS.puts [.slice sa0 l1.length sc0, .slice sa1 g1.length sc1, .slice sa2 h1.length sc2, .slice ua3 q2.length uc3] HBS (by simp) (by simp [isSl])
          have H7 := H7.puts_far (g := b9) (by omega) [.slice sa0 l1.length sc0, .slice sa1 g1.length sc1, .slice sa2 h1.length sc2, .slice ua3 q2.length uc3] 0 wn8
          have H9 := H9.four (.slice sa0 l1.length sc0) (.slice sa1 g1.length sc1) (.slice sa2 h1.length sc2) (.slice ua3 q2.length uc3)
          have H8 := H8.puts_far (g := b9) (by omega) [.slice sa0 l1.length sc0, .slice sa1 g1.length sc1, .slice sa2 h1.length sc2, .slice ua3 q2.length uc3] 0 wn8
          rw [← hwn] at HT HX HR HS H7 H8 H9
          clear hwn HBS
          (refine hK.out _ _ (⟨HT.a.1, HT.b.1, H7.1⟩) (fun hHeld => ?_); clear hK K; (try simp only [Act.put, List.setIfInBounds_toArray, List.set_cons_zero, List.set_cons_succ]))
          refine wpAnyH_done (by kernel_rfl) ?_ _
          go_wp2_with fail
          go_meet
          exact ⟨b8, b9, ra0, rc0, sa0, sc0, ra1, rc1, sa1, sc1, ra2, rc2, sa2, sc2, rfl, rfl, by omega, by omega, by omega, Lib.hid ⟨HT, H7, H8, H9, HX, HR, HS⟩⟩
      · go_simp
        obtain ⟨b9, hb9⟩ : ∃ b, b = wk1.heap.size := ⟨_, rfl⟩
        obtain ⟨wk2, hwn⟩ : ∃ V, V = wk1.alloc (.cells #[.slice none 0 0, .slice none 0 0, .slice none 0 0, .slice none 0 0] 26) := ⟨_, rfl⟩
        rw [← hwn, ← hb9]
        have hbq : Below wk1.heap.size wk1 wk2 := by rw [hwn]; exact (Below.refl _ _).alloc (Nat.le_refl _) _
        have H9 : Blk wk2 b9 #[.slice none 0 0, .slice none 0 0, .slice none 0 0, .slice none 0 0] := by rw [hwn, hb9]; exact Blk.new _ _ _
        have lb9 : b7 < b9 := by rw [hb9]; exact H7.2.2
        have hne : b8 < b9 := by rw [hb9]; exact H8.2.2
        have HX := HX.below hbq
        have H7 := H7.below hbq
        have H8 := H8.below hbq
        have HT := HT.later hbq
        clear hbq hwn hb9
        (refine hK.out _ _ (⟨HT.a.1, HT.b.1, H7.1⟩) (fun hHeld => ?_); clear hK K; (try simp only [Act.put, List.setIfInBounds_toArray, List.set_cons_zero, List.set_cons_succ]))
        (refine held_call 2 rfl (by kernel_rfl) (fun K hK => ?_); go_simp)
        go_at_call 14; refine (AP1.out _ _ _ _ _ _ _ HT.low HX).mono ?_; rintro e wk3 ⟨y0, y1, y2, rfl, hy, hbq⟩
        obtain ⟨ra0, rc0, rfl⟩ := hy.r0.form
        obtain ⟨ra1, rc1, rfl⟩ := hy.r1.form
        obtain ⟨ra2, rc2, rfl⟩ := hy.r2.form
        have HX := HX.below hbq
        have H7 := H7.below hbq
        have H8 := H8.below hbq
        have H9 := H9.below hbq
        have HT := HT.later hbq
        have HR := hy
        clear hy
        clear hbq
        (refine hK.out _ _ (⟨HT.a.1, HT.b.1, H7.1⟩) (fun hHeld => ?_); clear hK K; (try simp only [Act.put, List.setIfInBounds_toArray, List.set_cons_zero, List.set_cons_succ]))
        (refine held_call 5 rfl (by kernel_rfl) (fun K hK => ?_); go_simp)
        go_at_call 10; refine (BK.out _ HX).mono ?_; rintro e wk4 ⟨rfl, hbq⟩
        have HX := HX.below hbq
        have H7 := H7.below hbq
        have HR := HR.below hbq
        have H8 := H8.below hbq
        have H9 := H9.below hbq
        have HT := HT.later hbq
        clear hbq
        (refine hK.out _ _ (⟨HT.a.1, HT.b.1, H7.1⟩) (fun hHeld => ?_); clear hK K; (try simp only [Act.put, List.setIfInBounds_toArray, List.set_cons_zero, List.set_cons_succ]))
        (refine held_call 6 rfl (by kernel_rfl) (fun K hK => ?_); go_simp)
        go_at_call 14; refine (AP2.out _ _ _ _ _ _ _ HT.low HX.back).mono ?_; rintro e wk5 ⟨y0, y1, y2, rfl, hy, hbq⟩
        obtain ⟨sa0, sc0, rfl⟩ := hy.r0.form
        obtain ⟨sa1, sc1, rfl⟩ := hy.r1.form
        obtain ⟨sa2, sc2, rfl⟩ := hy.r2.form
        have HX := HX.below hbq
        have H7 := H7.below hbq
        have HR := HR.below hbq
        have H8 := H8.below hbq
        have H9 := H9.below hbq
        have HT := HT.later hbq
        have HS := hy
        clear hy
        clear hbq
        (refine hK.out _ _ (⟨HT.a.1, HT.b.1, H7.1⟩) (fun hHeld => ?_); clear hK K; (try simp only [Act.put, List.setIfInBounds_toArray, List.set_cons_zero, List.set_cons_succ]))
        have Hc := H8
        obtain ⟨cs, fs, zs⟩ := Hc
        (refine held_call 9 rfl (by kernel_rfl) (fun K hK => ?_); go_simp)
        clear cs fs zs
        obtain ⟨wn, hwn⟩ : ∃ W, W = puts wk5 b8 0 [.slice ra0 l2.length rc0, .slice ra1 g2.length rc1, .slice ra2 h2.length rc2, .slice va3 q1.length vc3] := ⟨_, rfl⟩
        have hch : ((((wk5.setCell ⟨b8, 0, none⟩ (.slice ra0 l2.length rc0)).setCell ⟨b8, 1, none⟩ (.slice ra1 g2.length rc1)).setCell ⟨b8, 2, none⟩ (.slice ra2 h2.length rc2)).setCell ⟨b8, 3, none⟩ (.slice va3 q1.length vc3)) = wn := hwn.symm
        rw [hch]
        clear hch
        have HBS : BlkS wk5 b8 4 := ⟨_, H8, rfl, by simp [isSl]⟩
        have HT := HT.puts (g := b8) (by omega) [.slice ra0 l2.length rc0, .slice ra1 g2.length rc1, .slice ra2 h2.length rc2, .slice va3 q1.length vc3]
        have HX := HX.puts [.slice ra0 l2.length rc0, .slice ra1 g2.length rc1, .slice ra2 h2.length rc2, .slice va3 q1.length vc3] HBS (by simp) (by simp [isSl])
        have HR := HR.puts [.slice ra0 l2.length rc0, .slice ra1 g2.length rc1, .slice ra2 h2.length rc2, .slice va3 q1.length vc3] HBS (by simp) (by simp [isSl])
        have HS := HS.puts [.slice ra0 l2.length rc0, .slice ra1 g2.length rc1, .slice ra2 h2.length rc2, .slice va3 q1.length vc3] HBS (by simp) (by simp [isSl])
        have H7 := H7.puts_far (g := b8) (by omega) [.slice ra0 l2.length rc0, .slice ra1 g2.length rc1, .slice ra2 h2.length rc2, .slice va3 q1.length vc3] 0 wk5
        have H8 := H8.four (.slice ra0 l2.length rc0) (.slice ra1 g2.length rc1) (.slice ra2 h2.length rc2) (.slice va3 q1.length vc3)
        have H9 := H9.puts_far (g := b8) (by omega) [.slice ra0 l2.length rc0, .slice ra1 g2.length rc1, .slice ra2 h2.length rc2, .slice va3 q1.length vc3] 0 wk5
        rw [← hwn] at HT HX HR HS H7 H8 H9
        clear hwn HBS
        (refine hK.out _ _ (⟨HT.a.1, HT.b.1, H7.1⟩) (fun hHeld => ?_); clear hK K; (try simp only [Act.put, List.setIfInBounds_toArray, List.set_cons_zero, List.set_cons_succ]))
        generalize wn = wn8 at *
        have Hc := H9
        obtain ⟨cs, fs, zs⟩ := Hc
        (refine held_call 10 rfl (by kernel_rfl) (fun K hK => ?_); go_simp)
        clear cs fs zs
        obtain ⟨wn, hwn⟩ : ∃ W, W = puts wn8 b9 0 [.slice sa0 l1.length sc0, .slice sa1 g1.length sc1, .slice sa2 h1.length sc2, .slice ua3 q2.length uc3] := ⟨_, rfl⟩
        have hch : ((((wn8.setCell ⟨b9, 0, none⟩ (.slice sa0 l1.length sc0)).setCell ⟨b9, 1, none⟩ (.slice sa1 g1.length sc1)).setCell ⟨b9, 2, none⟩ (.slice sa2 h1.length sc2)).setCell ⟨b9, 3, none⟩ (.slice ua3 q2.length uc3)) = wn := hwn.symm
        rw [hch]
        clear hch
        have HBS : BlkS wn8 b9 4 := ⟨_, H9, rfl, by simp [isSl]⟩
        have HT := HT.puts (g := b9) (by omega) [.slice sa0 l1.length sc0, .slice sa1 g1.length sc1, .slice sa2 h1.length sc2, .slice ua3 q2.length uc3]
        have HX := HX.puts [.slice sa0 l1.length sc0, .slice sa1 g1.length sc1, .slice sa2 h1.length sc2, .slice ua3 q2.length uc3] HBS (by simp) (by simp [isSl])
        have HR := HR.puts [.slice sa0 l1.length sc0, .slice sa1 g1.length sc1, .slice sa2 h1.length sc2, .slice ua3 q2.length uc3] HBS (by simp) (by simp [isSl])
        have HS := HS.puts [.slice sa0 l1.length sc0, .slice sa1 g1.length sc1, .slice sa2 h1.length sc2, .slice ua3 q2.length uc3] HBS (by simp) (by simp [isSl])
        have H7 := H7.puts_far (g := b9) (by omega) [.slice sa0 l1.length sc0, .slice sa1 g1.length sc1, .slice sa2 h1.length sc2, .slice ua3 q2.length uc3] 0 wn8
        have H9 := H9.four (.slice sa0 l1.length sc0) (.slice sa1 g1.length sc1) (.slice sa2 h1.length sc2) (.slice ua3 q2.length uc3)
        have H8 := H8.puts_far (g := b9) (by omega) [.slice sa0 l1.length sc0, .slice sa1 g1.length sc1, .slice sa2 h1.length sc2, .slice ua3 q2.length uc3] 0 wn8
        rw [← hwn] at HT HX HR HS H7 H8 H9
        clear hwn HBS
        (refine hK.out _ _ (⟨HT.a.1, HT.b.1, H7.1⟩) (fun hHeld => ?_); clear hK K; (try simp only [Act.put, List.setIfInBounds_toArray, List.set_cons_zero, List.set_cons_succ]))
        refine wpAnyH_done (by kernel_rfl) ?_ _
        go_wp2_with fail
        go_meet
        exact ⟨b8, b9, ra0, rc0, sa0, sc0, ra1, rc1, sa1, sc1, ra2, rc2, sa2, sc2, rfl, rfl, by omega, by omega, by omega, Lib.hid ⟨HT, H7, H8, H9, HX, HR, HS⟩⟩
    · go_simp
      obtain ⟨b9, hb9⟩ : ∃ b, b = wk.heap.size := ⟨_, rfl⟩
      obtain ⟨wk1, hwn⟩ : ∃ V, V = wk.alloc (.cells #[.slice none 0 0, .slice none 0 0, .slice none 0 0, .slice none 0 0] 26) := ⟨_, rfl⟩
      rw [← hwn, ← hb9]
      have hbq : Below wk.heap.size wk wk1 := by rw [hwn]; exact (Below.refl _ _).alloc (Nat.le_refl _) _
      have H9 : Blk wk1 b9 #[.slice none 0 0, .slice none 0 0, .slice none 0 0, .slice none 0 0] := by rw [hwn, hb9]; exact Blk.new _ _ _
      have lb9 : b7 < b9 := by rw [hb9]; exact H7.2.2
      have HX := HX.below hbq
      have H7 := H7.below hbq
      have HT := HT.later hbq
      clear hbq hwn hb9
      (refine hK.out _ _ (⟨HT.a.1, HT.b.1, H7.1⟩) (fun hHeld => ?_); clear hK K; (try simp only [Act.put, List.setIfInBounds_toArray, List.set_cons_zero, List.set_cons_succ]))
      refine wpAnyH_ready (rs := [2, 7]) (by kernel_rfl) (by simp) (AllReadyH.cons rfl (fun K hK => ?_) (AllReadyH.cons rfl (fun K hK => ?_) AllReadyH.nil))
      · go_simp
        go_at_call 14; refine (AP1.out _ _ _ _ _ _ _ HT.low HX).mono ?_; rintro e wk2 ⟨y0, y1, y2, rfl, hy, hbq⟩
        obtain ⟨ra0, rc0, rfl⟩ := hy.r0.form
        obtain ⟨ra1, rc1, rfl⟩ := hy.r1.form
        obtain ⟨ra2, rc2, rfl⟩ := hy.r2.form
        have HX := HX.below hbq
        have H7 := H7.below hbq
        have H9 := H9.below hbq
        have HT := HT.later hbq
        have HR := hy
        clear hy
        clear hbq
        (refine hK.out _ _ (⟨HT.a.1, HT.b.1, H7.1⟩) (fun hHeld => ?_); clear hK K; (try simp only [Act.put, List.setIfInBounds_toArray, List.set_cons_zero, List.set_cons_succ]))
        refine wpAnyH_ready (rs := [5, 7]) (by kernel_rfl) (by simp) (AllReadyH.cons rfl (fun K hK => ?_) (AllReadyH.cons rfl (fun K hK => ?_) AllReadyH.nil))
        · go_simp
          go_at_call 10; refine (BK.out _ HX).mono ?_; rintro e wk3 ⟨rfl, hbq⟩
          have HX := HX.below hbq
          have H7 := H7.below hbq
          have HR := HR.below hbq
          have H9 := H9.below hbq
          have HT := HT.later hbq
          clear hbq
          (refine hK.out _ _ (⟨HT.a.1, HT.b.1, H7.1⟩) (fun hHeld => ?_); clear hK K; (try simp only [Act.put, List.setIfInBounds_toArray, List.set_cons_zero, List.set_cons_succ]))
          refine wpAnyH_ready (rs := [6, 7]) (by kernel_rfl) (by simp) (AllReadyH.cons rfl (fun K hK => ?_) (AllReadyH.cons rfl (fun K hK => ?_) AllReadyH.nil))
          · go_simp
            go_at_call 14; refine (AP2.out _ _ _ _ _ _ _ HT.low HX.back).mono ?_; rintro e wk4 ⟨y0, y1, y2, rfl, hy, hbq⟩
            obtain ⟨sa0, sc0, rfl⟩ := hy.r0.form
            obtain ⟨sa1, sc1, rfl⟩ := hy.r1.form
            obtain ⟨sa2, sc2, rfl⟩ := hy.r2.form
            have HX := HX.below hbq
            have H7 := H7.below hbq
            have HR := HR.below hbq
            have H9 := H9.below hbq
            have HT := HT.later hbq
            have HS := hy
            clear hy
            clear hbq
            (refine hK.out _ _ (⟨HT.a.1, HT.b.1, H7.1⟩) (fun hHeld => ?_); clear hK K; (try simp only [Act.put, List.setIfInBounds_toArray, List.set_cons_zero, List.set_cons_succ]))
            (refine held_call 7 rfl (by kernel_rfl) (fun K hK => ?_); go_simp)
            obtain ⟨b8, hb8⟩ : ∃ b, b = wk4.heap.size := ⟨_, rfl⟩
            obtain ⟨wk5, hwn⟩ : ∃ V, V = wk4.alloc (.cells #[.slice none 0 0, .slice none 0 0, .slice none 0 0, .slice none 0 0] 26) := ⟨_, rfl⟩
            rw [← hwn, ← hb8]
            have hbq : Below wk4.heap.size wk4 wk5 := by rw [hwn]; exact (Below.refl _ _).alloc (Nat.le_refl _) _
            have H8 : Blk wk5 b8 #[.slice none 0 0, .slice none 0 0, .slice none 0 0, .slice none 0 0] := by rw [hwn, hb8]; exact Blk.new _ _ _
            have lb8 : b7 < b8 := by rw [hb8]; exact H7.2.2
            have hne : b9 < b8 := by rw [hb8]; exact H9.2.2
            have HX := HX.below hbq
            have H7 := H7.below hbq
            have HR := HR.below hbq
            have HS := HS.below hbq
            have H9 := H9.below hbq
            have HT := HT.later hbq
            clear hbq hwn hb8
            (refine hK.out _ _ (⟨HT.a.1, HT.b.1, H7.1⟩) (fun hHeld => ?_); clear hK K; (try simp only [Act.put, List.setIfInBounds_toArray, List.set_cons_zero, List.set_cons_succ]))
            have Hc := H8
            obtain ⟨cs, fs, zs⟩ := Hc
            (refine held_call 9 rfl (by kernel_rfl) (fun K hK => ?_); go_simp)
            clear cs fs zs
            obtain ⟨wn, hwn⟩ : ∃ W, W = puts wk5 b8 0 [.slice ra0 l2.length rc0, .slice ra1 g2.length rc1, .slice ra2 h2.length rc2, .slice va3 q1.length vc3] := ⟨_, rfl⟩
            have hch : ((((wk5.setCell ⟨b8, 0, none⟩ (.slice ra0 l2.length rc0)).setCell ⟨b8, 1, none⟩ (.slice ra1 g2.length rc1)).setCell ⟨b8, 2, none⟩ (.slice ra2 h2.length rc2)).setCell ⟨b8, 3, none⟩ (.slice va3 q1.length vc3)) = wn := hwn.symm
            rw [hch]
            clear hch
            have HBS : BlkS wk5 b8 4 := ⟨_, H8, rfl, by simp [isSl]⟩
            have HT := HT.puts (g := b8) (by omega) [.slice ra0 l2.length rc0, .slice ra1 g2.length rc1, .slice ra2 h2.length rc2, .slice va3 q1.length vc3]
            have HX := HX.puts [.slice ra0 l2.length rc0, .slice ra1 g2.length rc1, .slice ra2 h2.length rc2, .slice va3 q1.length vc3] HBS (by simp) (by simp [isSl])
            have HR := HR.puts [.slice ra0 l2.length rc0, .slice ra1 g2.length rc1, .slice ra2 h2.length rc2, .slice va3 q1.length vc3] HBS (by simp) (by simp [isSl])
            have HS := HS.puts [.slice ra0 l2.length rc0, .slice ra1 g2.length rc1, .slice ra2 h2.length rc2, .slice va3 q1.length vc3] HBS (by simp) (by simp [isSl])
            have H7 := H7.puts_far (g := b8) (by omega) [.slice ra0 l2.length rc0, .slice ra1 g2.length rc1, .slice ra2 h2.length rc2, .slice va3 q1.length vc3] 0 wk5
            have H8 := H8.four (.slice ra0 l2.length rc0) (.slice ra1 g2.length rc1) (.slice ra2 h2.length rc2) (.slice va3 q1.length vc3)
            have H9 := H9.puts_far (g := b8) (by omega) [.slice ra0 l2.length rc0, .slice ra1 g2.length rc1, .slice ra2 h2.length rc2, .slice va3 q1.length vc3] 0 wk5
            rw [← hwn] at HT HX HR HS H7 H8 H9
            clear hwn HBS
            (refine hK.out _ _ (⟨HT.a.1, HT.b.1, H7.1⟩) (fun hHeld => ?_); clear hK K; (try simp only [Act.put, List.setIfInBounds_toArray, List.set_cons_zero, List.set_cons_succ]))
            generalize wn = wn8 at *
            have Hc := H9
            obtain ⟨cs, fs, zs⟩ := Hc
            (refine held_call 10 rfl (by kernel_rfl) (fun K hK => ?_); go_simp)
            clear cs fs zs
            obtain ⟨wn, hwn⟩ : ∃ W, W = puts wn8 b9 0 [.slice sa0 l1.length sc0, .slice sa1 g1.length sc1, .slice sa2 h1.length sc2, .slice ua3 q2.length uc3] := ⟨_, rfl⟩
            have hch : ((((wn8.setCell ⟨b9, 0, none⟩ (.slice sa0 l1.length sc0)).setCell ⟨b9, 1, none⟩ (.slice sa1 g1.length sc1)).setCell ⟨b9, 2, none⟩ (.slice sa2 h1.length sc2)).setCell ⟨b9, 3, none⟩ (.slice ua3 q2.length uc3)) = wn := hwn.symm
            rw [hch]
            clear hch
            have HBS : BlkS wn8 b9 4 := ⟨_, H9, rfl, by simp [isSl]⟩
            have HT := HT.puts (g := b9) (by omega) [.slice sa0 l1.length sc0, .slice sa1 g1.length sc1, .slice sa2 h1.length sc2, .slice ua3 q2.length uc3]
            have HX := HX.puts [.slice sa0 l1.length sc0, .slice sa1 g1.length sc1, .slice sa2 h1.length sc2, .slice ua3 q2.length uc3] HBS (by simp) (by simp [isSl])
            have HR := HR.puts [.slice sa0 l1.length sc0, .slice sa1 g1.length sc1, .slice sa2 h1.length sc2, .slice ua3 q2.length uc3] HBS (by simp) (by simp [isSl])
            have HS := HS.puts [.slice sa0 l1.length sc0, .slice sa1 g1.length sc1, .slice sa2 h1.length sc2, .slice ua3 q2.length uc3] HBS (by simp) (by simp [isSl])
            have H7 := H7.puts_far (g := b9) (by omega) [.slice sa0 l1.length sc0, .slice sa1 g1.length sc1, .slice sa2 h1.length sc2, .slice ua3 q2.length uc3] 0 wn8
            have H9 := H9.four (.slice sa0 l1.length sc0) (.slice sa1 g1.length sc1) (.slice sa2 h1.length sc2) (.slice ua3 q2.length uc3)
            have H8 := H8.puts_far (g := b9) (by omega) [.slice sa0 l1.length sc0, .slice sa1 g1.length sc1, .slice sa2 h1.length sc2, .slice ua3 q2.length uc3] 0 wn8
            rw [← hwn] at HT HX HR HS H7 H8 H9
            clear hwn HBS
            (refine hK.out _ _ (⟨HT.a.1, HT.b.1, H7.1⟩) (fun hHeld => ?_); clear hK K; (try simp only [Act.put, List.setIfInBounds_toArray, List.set_cons_zero, List.set_cons_succ]))
            refine wpAnyH_done (by kernel_rfl) ?_ _
            go_wp2_with fail
            go_meet
            exact ⟨b8, b9, ra0, rc0, sa0, sc0, ra1, rc1, sa1, sc1, ra2, rc2, sa2, sc2, rfl, rfl, by omega, by omega, by omega, Lib.hid ⟨HT, H7, H8, H9, HX, HR, HS⟩⟩
          · go_simp
            obtain ⟨b8, hb8⟩ : ∃ b, b = wk3.heap.size := ⟨_, rfl⟩
            obtain ⟨wk4, hwn⟩ : ∃ V, V = wk3.alloc (.cells #[.slice none 0 0, .slice none 0 0, .slice none 0 0, .slice none 0 0] 26) := ⟨_, rfl⟩
            rw [← hwn, ← hb8]
            have hbq : Below wk3.heap.size wk3 wk4 := by rw [hwn]; exact (Below.refl _ _).alloc (Nat.le_refl _) _
            have H8 : Blk wk4 b8 #[.slice none 0 0, .slice none 0 0, .slice none 0 0, .slice none 0 0] := by rw [hwn, hb8]; exact Blk.new _ _ _
            have lb8 : b7 < b8 := by rw [hb8]; exact H7.2.2
            have hne : b9 < b8 := by rw [hb8]; exact H9.2.2
            have HX := HX.below hbq
            have H7 := H7.below hbq
            have HR := HR.below hbq
            have H9 := H9.below hbq
            have HT := HT.later hbq
            clear hbq hwn hb8
            (refine hK.out _ _ (⟨HT.a.1, HT.b.1, H7.1⟩) (fun hHeld => ?_); clear hK K; (try simp only [Act.put, List.setIfInBounds_toArray, List.set_cons_zero, List.set_cons_succ]))
            (refine held_call 6 rfl (by kernel_rfl) (fun K hK => ?_); go_simp)
            go_at_call 14; refine (AP2.out _ _ _ _ _ _ _ HT.low HX.back).mono ?_; rintro e wk5 ⟨y0, y1, y2, rfl, hy, hbq⟩
            obtain ⟨sa0, sc0, rfl⟩ := hy.r0.form
            obtain ⟨sa1, sc1, rfl⟩ := hy.r1.form
            obtain ⟨sa2, sc2, rfl⟩ := hy.r2.form
            have HX := HX.below hbq
            have H7 := H7.below hbq
            have HR := HR.below hbq
            have H8 := H8.below hbq
            have H9 := H9.below hbq
            have HT := HT.later hbq
            have HS := hy
            clear hy
            clear hbq
            (refine hK.out _ _ (⟨HT.a.1, HT.b.1, H7.1⟩) (fun hHeld => ?_); clear hK K; (try simp only [Act.put, List.setIfInBounds_toArray, List.set_cons_zero, List.set_cons_succ]))
            have Hc := H8
            obtain ⟨cs, fs, zs⟩ := Hc
            (refine held_call 9 rfl (by kernel_rfl) (fun K hK => ?_); go_simp)
            clear cs fs zs
            obtain ⟨wn, hwn⟩ : ∃ W, W = puts wk5 b8 0 [.slice ra0 l2.length rc0, .slice ra1 g2.length rc1, .slice ra2 h2.length rc2, .slice va3 q1.length vc3] := ⟨_, rfl⟩
            have hch : ((((wk5.setCell ⟨b8, 0, none⟩ (.slice ra0 l2.length rc0)).setCell ⟨b8, 1, none⟩ (.slice ra1 g2.length rc1)).setCell ⟨b8, 2, none⟩ (.slice ra2 h2.length rc2)).setCell ⟨b8, 3, none⟩ (.slice va3 q1.length vc3)) = wn := hwn.symm
            rw [hch]
            clear hch
            have HBS : BlkS wk5 b8 4 := ⟨_, H8, rfl, by simp [isSl]⟩
            have HT := HT.puts (g := b8) (by omega) [.slice ra0 l2.length rc0, .slice ra1 g2.length rc1, .slice ra2 h2.length rc2, .slice va3 q1.length vc3]
            have HX := HX.puts [.slice ra0 l2.length rc0, .slice ra1 g2.length rc1, .slice ra2 h2.length rc2, .slice va3 q1.length vc3] HBS (by simp) (by simp [isSl])
            have HR := HR.puts [.slice ra0 l2.length rc0, .slice ra1 g2.length rc1, .slice ra2 h2.length rc2, .slice va3 q1.length vc3] HBS (by simp) (by simp [isSl])
            have HS := HS.puts [.slice ra0 l2.length rc0, .slice ra1 g2.length rc1, .slice ra2 h2.length rc2, .slice va3 q1.length vc3] HBS (by simp) (by simp [isSl])
            have H7 := H7.puts_far (g := b8) (by omega) [.slice ra0 l2.length rc0, .slice ra1 g2.length rc1, .slice ra2 h2.length rc2, .slice va3 q1.length vc3] 0 wk5
            have H8 := H8.four (.slice ra0 l2.length rc0) (.slice ra1 g2.length rc1) (.slice ra2 h2.length rc2) (.slice va3 q1.length vc3)
            have H9 := H9.puts_far (g := b8) (by omega) [.slice ra0 l2.length rc0, .slice ra1 g2.length rc1, .slice ra2 h2.length rc2, .slice va3 q1.length vc3] 0 wk5
            rw [← hwn] at HT HX HR HS H7 H8 H9
            clear hwn HBS
            (refine hK.out _ _ (⟨HT.a.1, HT.b.1, H7.1⟩) (fun hHeld => ?_); clear hK K; (try simp only [Act.put, List.setIfInBounds_toArray, List.set_cons_zero, List.set_cons_succ]))
            generalize wn = wn8 at *
            have Hc := H9
            obtain ⟨cs, fs, zs⟩ := Hc
            (refine held_call 10 rfl (by kernel_rfl) (fun K hK => ?_); go_simp)
            clear cs fs zs
            obtain ⟨wn, hwn⟩ : ∃ W, W = puts wn8 b9 0 [.slice sa0 l1.length sc0, .slice sa1 g1.length sc1, .slice sa2 h1.length sc2, .slice ua3 q2.length uc3] := ⟨_, rfl⟩
            have hch : ((((wn8.setCell ⟨b9, 0, none⟩ (.slice sa0 l1.length sc0)).setCell ⟨b9, 1, none⟩ (.slice sa1 g1.length sc1)).setCell ⟨b9, 2, none⟩ (.slice sa2 h1.length sc2)).setCell ⟨b9, 3, none⟩ (.slice ua3 q2.length uc3)) = wn := hwn.symm
            rw [hch]
            clear hch
            have HBS : BlkS wn8 b9 4 := ⟨_, H9, rfl, by simp [isSl]⟩
            have HT := HT.puts (g := b9) (by omega) [.slice sa0 l1.length sc0, .slice sa1 g1.length sc1, .slice sa2 h1.length sc2, .slice ua3 q2.length uc3]
            have HX := HX.puts [.slice sa0 l1.length sc0, .slice sa1 g1.length sc1, .slice sa2 h1.length sc2, .slice ua3 q2.length uc3] HBS (by simp) (by simp [isSl])
            have HR := HR.puts [.slice sa0 l1.length sc0, .slice sa1 g1.length sc1, .slice sa2 h1.length sc2, .slice ua3 q2.length uc3] HBS (by simp) (by simp [isSl])
            have HS := HS.puts [.slice sa0 l1.length sc0, .slice sa1 g1.length sc1, .slice sa2 h1.length sc2, .slice ua3 q2.length uc3] HBS (by simp) (by simp [isSl])
            have H7 := H7.puts_far (g := b9) (by omega) [.slice sa0 l1.length sc0, .slice sa1 g1.length sc1, .slice sa2 h1.length sc2, .slice ua3 q2.length uc3] 0 wn8
            have H9 := H9.four (.slice sa0 l1.length sc0) (.slice sa1 g1.length sc1) (.slice sa2 h1.length sc2) (.slice ua3 q2.length uc3)
            have H8 := H8.puts_far (g := b9) (by omega) [.slice sa0 l1.length sc0, .slice sa1 g1.length sc1, .slice sa2 h1.length sc2, .slice ua3 q2.length uc3] 0 wn8
            rw [← hwn] at HT HX HR HS H7 H8 H9
            clear hwn HBS
            (refine hK.out _ _ (⟨HT.a.1, HT.b.1, H7.1⟩) (fun hHeld => ?_); clear hK K; (try simp only [Act.put, List.setIfInBounds_toArray, List.set_cons_zero, List.set_cons_succ]))
            refine wpAnyH_done (by kernel_rfl) ?_ _
            go_wp2_with fail
            go_meet
            exact ⟨b8, b9, ra0, rc0, sa0, sc0, ra1, rc1, sa1, sc1, ra2, rc2, sa2, sc2, rfl, rfl, by omega, by omega, by omega, Lib.hid ⟨HT, H7, H8, H9, HX, HR, HS⟩⟩
        · go_simp
          obtain ⟨b8, hb8⟩ : ∃ b, b = wk2.heap.size := ⟨_, rfl⟩
          obtain ⟨wk3, hwn⟩ : ∃ V, V = wk2.alloc (.cells #[.slice none 0 0, .slice none 0 0, .slice none 0 0, .slice none 0 0] 26) := ⟨_, rfl⟩
          rw [← hwn, ← hb8]
          have hbq : Below wk2.heap.size wk2 wk3 := by rw [hwn]; exact (Below.refl _ _).alloc (Nat.le_refl _) _
          have H8 : Blk wk3 b8 #[.slice none 0 0, .slice none 0 0, .slice none 0 0, .slice none 0 0] := by rw [hwn, hb8]; exact Blk.new _ _ _
          have lb8 : b7 < b8 := by rw [hb8]; exact H7.2.2
          have hne : b9 < b8 := by rw [hb8]; exact H9.2.2
          have HX := HX.below hbq
          have H7 := H7.below hbq
          have HR := HR.below hbq
          have H9 := H9.below hbq
          have HT := HT.later hbq
          clear hbq hwn hb8
          (refine hK.out _ _ (⟨HT.a.1, HT.b.1, H7.1⟩) (fun hHeld => ?_); clear hK K; (try simp only [Act.put, List.setIfInBounds_toArray, List.set_cons_zero, List.set_cons_succ]))
          (refine held_call 5 rfl (by kernel_rfl) (fun K hK => ?_); go_simp)
          go_at_call 10; refine (BK.out _ HX).mono ?_; rintro e wk4 ⟨rfl, hbq⟩
          have HX := HX.below hbq
          have H7 := H7.below hbq
          have HR := HR.below hbq
          have H8 := H8.below hbq
          have H9 := H9.below hbq
          have HT := HT.later hbq
          clear hbq
          (refine hK.out _ _ (⟨HT.a.1, HT.b.1, H7.1⟩) (fun hHeld => ?_); clear hK K; (try simp only [Act.put, List.setIfInBounds_toArray, List.set_cons_zero, List.set_cons_succ]))
          (refine held_call 6 rfl (by kernel_rfl) (fun K hK => ?_); go_simp)
          go_at_call 14; refine (AP2.out _ _ _ _ _ _ _ HT.low HX.back).mono ?_; rintro e wk5 ⟨y0, y1, y2, rfl, hy, hbq⟩
          obtain ⟨sa0, sc0, rfl⟩ := hy.r0.form
          obtain ⟨sa1, sc1, rfl⟩ := hy.r1.form
          obtain ⟨sa2, sc2, rfl⟩ := hy.r2.form
          have HX := HX.below hbq
          have H7 := H7.below hbq
          have HR := HR.below hbq
          have H8 := H8.below hbq
          have H9 := H9.below hbq
          have HT := HT.later hbq
          have HS := hy
          clear hy
          clear hbq
          (refine hK.out _ _ (⟨HT.a.1, HT.b.1, H7.1⟩) (fun hHeld => ?_); clear hK K; (try simp only [Act.put, List.setIfInBounds_toArray, List.set_cons_zero, List.set_cons_succ]))
          have Hc := H8
          obtain ⟨cs, fs, zs⟩ := Hc
          (refine held_call 9 rfl (by kernel_rfl) (fun K hK => ?_); go_simp)
          clear cs fs zs
          obtain ⟨wn, hwn⟩ : ∃ W, W = puts wk5 b8 0 [.slice ra0 l2.length rc0, .slice ra1 g2.length rc1, .slice ra2 h2.length rc2, .slice va3 q1.length vc3] := ⟨_, rfl⟩
          have hch : ((((wk5.setCell ⟨b8, 0, none⟩ (.slice ra0 l2.length rc0)).setCell ⟨b8, 1, none⟩ (.slice ra1 g2.length rc1)).setCell ⟨b8, 2, none⟩ (.slice ra2 h2.length rc2)).setCell ⟨b8, 3, none⟩ (.slice va3 q1.length vc3)) = wn := hwn.symm
          rw [hch]
          clear hch
          have HBS : BlkS wk5 b8 4 := ⟨_, H8, rfl, by simp [isSl]⟩
          have HT := HT.puts (g := b8) (by omega) [.slice ra0 l2.length rc0, .slice ra1 g2.length rc1, .slice ra2 h2.length rc2, .slice va3 q1.length vc3]
          have HX := HX.puts [.slice ra0 l2.length rc0, .slice ra1 g2.length rc1, .slice ra2 h2.length rc2, .slice va3 q1.length vc3] HBS (by simp) (by simp [isSl])
          have HR := HR.puts [.slice ra0 l2.length rc0, .slice ra1 g2.length rc1, .slice ra2 h2.length rc2, .slice va3 q1.length vc3] HBS (by simp) (by simp [isSl])
          have HS := HS.puts [.slice ra0 l2.length rc0, .slice ra1 g2.length rc1, .slice ra2 h2.length rc2, .slice va3 q1.length vc3] HBS (by simp) (by simp [isSl])
          have H7 := H7.puts_far (g := b8) (by omega) [.slice ra0 l2.length rc0, .slice ra1 g2.length rc1, .slice ra2 h2.length rc2, .slice va3 q1.length vc3] 0 wk5
          have H8 := H8.four (.slice ra0 l2.length rc0) (.slice ra1 g2.length rc1) (.slice ra2 h2.length rc2) (.slice va3 q1.length vc3)
          have H9 := H9.puts_far (g := b8) (by omega) [.slice ra0 l2.length rc0, .slice ra1 g2.length rc1, .slice ra2 h2.length rc2, .slice va3 q1.length vc3] 0 wk5
          rw [← hwn] at HT HX HR HS H7 H8 H9
          clear hwn HBS
          (refine hK.out _ _ (⟨HT.a.1, HT.b.1, H7.1⟩) (fun hHeld => ?_); clear hK K; (try simp only [Act.put, List.setIfInBounds_toArray, List.set_cons_zero, List.set_cons_succ]))
          generalize wn = wn8 at *
          have Hc := H9
          obtain ⟨cs, fs, zs⟩ := Hc
          (refine held_call 10 rfl (by kernel_rfl) (fun K hK => ?_); go_simp)
          clear cs fs zs
          obtain ⟨wn, hwn⟩ : ∃ W, W = puts wn8 b9 0 [.slice sa0 l1.length sc0, .slice sa1 g1.length sc1, .slice sa2 h1.length sc2, .slice ua3 q2.length uc3] := ⟨_, rfl⟩
          have hch : ((((wn8.setCell ⟨b9, 0, none⟩ (.slice sa0 l1.length sc0)).setCell ⟨b9, 1, none⟩ (.slice sa1 g1.length sc1)).setCell ⟨b9, 2, none⟩ (.slice sa2 h1.length sc2)).setCell ⟨b9, 3, none⟩ (.slice ua3 q2.length uc3)) = wn := hwn.symm
          rw [hch]
          clear hch
          have HBS : BlkS wn8 b9 4 := ⟨_, H9, rfl, by simp [isSl]⟩
          have HT := HT.puts (g := b9) (by omega) [.slice sa0 l1.length sc0, .slice sa1 g1.length sc1, .slice sa2 h1.length sc2, .slice ua3 q2.length uc3]
          have HX := HX.puts [.slice sa0 l1.length sc0, .slice sa1 g1.length sc1, .slice sa2 h1.length sc2, .slice ua3 q2.length uc3] HBS (by simp) (by simp [isSl])
          have HR := HR.puts [.slice sa0 l1.length sc0, .slice sa1 g1.length sc1, .slice sa2 h1.length sc2, .slice ua3 q2.length uc3] HBS (by simp) (by simp [isSl])
          have HS := HS.puts [.slice sa0 l1.length sc0, .slice sa1 g1.length sc1, .slice sa2 h1.length sc2, .slice ua3 q2.length uc3] HBS (by simp) (by simp [isSl])
          have H7 := H7.puts_far (g := b9) (by omega) [.slice sa0 l1.length sc0, .slice sa1 g1.length sc1, .slice sa2 h1.length sc2, .slice ua3 q2.length uc3] 0 wn8
          have H9 := H9.four (.slice sa0 l1.length sc0) (.slice sa1 g1.length sc1) (.slice sa2 h1.length sc2) (.slice ua3 q2.length uc3)
          have H8 := H8.puts_far (g := b9) (by omega) [.slice sa0 l1.length sc0, .slice sa1 g1.length sc1, .slice sa2 h1.length sc2, .slice ua3 q2.length uc3] 0 wn8
          rw [← hwn] at HT HX HR HS H7 H8 H9
          clear hwn HBS
          (refine hK.out _ _ (⟨HT.a.1, HT.b.1, H7.1⟩) (fun hHeld => ?_); clear hK K; (try simp only [Act.put, List.setIfInBounds_toArray, List.set_cons_zero, List.set_cons_succ]))
          refine wpAnyH_done (by kernel_rfl) ?_ _
          go_wp2_with fail
          go_meet
          exact ⟨b8, b9, ra0, rc0, sa0, sc0, ra1, rc1, sa1, sc1, ra2, rc2, sa2, sc2, rfl, rfl, by omega, by omega, by omega, Lib.hid ⟨HT, H7, H8, H9, HX, HR, HS⟩⟩
      · go_simp
        obtain ⟨b8, hb8⟩ : ∃ b, b = wk1.heap.size := ⟨_, rfl⟩
        obtain ⟨wk2, hwn⟩ : ∃ V, V = wk1.alloc (.cells #[.slice none 0 0, .slice none 0 0, .slice none 0 0, .slice none 0 0] 26) := ⟨_, rfl⟩
        rw [← hwn, ← hb8]
        have hbq : Below wk1.heap.size wk1 wk2 := by rw [hwn]; exact (Below.refl _ _).alloc (Nat.le_refl _) _
        have H8 : Blk wk2 b8 #[.slice none 0 0, .slice none 0 0, .slice none 0 0, .slice none 0 0] := by rw [hwn, hb8]; exact Blk.new _ _ _
        have lb8 : b7 < b8 := by rw [hb8]; exact H7.2.2
        have hne : b9 < b8 := by rw [hb8]; exact H9.2.2
        have HX := HX.below hbq
        have H7 := H7.below hbq
        have H9 := H9.below hbq
        have HT := HT.later hbq
        clear hbq hwn hb8
        (refine hK.out _ _ (⟨HT.a.1, HT.b.1, H7.1⟩) (fun hHeld => ?_); clear hK K; (try simp only [Act.put, List.setIfInBounds_toArray, List.set_cons_zero, List.set_cons_succ]))
        (refine held_call 2 rfl (by kernel_rfl) (fun K hK => ?_); go_simp)
        go_at_call 14; refine (AP1.out _ _ _ _ _ _ _ HT.low HX).mono ?_; rintro e wk3 ⟨y0, y1, y2, rfl, hy, hbq⟩
        obtain ⟨ra0, rc0, rfl⟩ := hy.r0.form
        obtain ⟨ra1, rc1, rfl⟩ := hy.r1.form
        obtain ⟨ra2, rc2, rfl⟩ := hy.r2.form
        have HX := HX.below hbq
        have H7 := H7.below hbq
        have H8 := H8.below hbq
        have H9 := H9.below hbq
        have HT := HT.later hbq
        have HR := hy
        clear hy
        clear hbq
        (refine hK.out _ _ (⟨HT.a.1, HT.b.1, H7.1⟩) (fun hHeld => ?_); clear hK K; (try simp only [Act.put, List.setIfInBounds_toArray, List.set_cons_zero, List.set_cons_succ]))
        (refine held_call 5 rfl (by kernel_rfl) (fun K hK => ?_); go_simp)
        go_at_call 10; refine (BK.out _ HX).mono ?_; rintro e wk4 ⟨rfl, hbq⟩
        have HX := HX.below hbq
        have H7 := H7.below hbq
        have HR := HR.below hbq
        have H8 := H8.below hbq
        have H9 := H9.below hbq
        have HT := HT.later hbq
        clear hbq
        (refine hK.out _ _ (⟨HT.a.1, HT.b.1, H7.1⟩) (fun hHeld => ?_); clear hK K; (try simp only [Act.put, List.setIfInBounds_toArray, List.set_cons_zero, List.set_cons_succ]))
        (refine held_call 6 rfl (by kernel_rfl) (fun K hK => ?_); go_simp)
        go_at_call 14; refine (AP2.out _ _ _ _ _ _ _ HT.low HX.back).mono ?_; rintro e wk5 ⟨y0, y1, y2, rfl, hy, hbq⟩
        obtain ⟨sa0, sc0, rfl⟩ := hy.r0.form
        obtain ⟨sa1, sc1, rfl⟩ := hy.r1.form
        obtain ⟨sa2, sc2, rfl⟩ := hy.r2.form
        have HX := HX.below hbq
        have H7 := H7.below hbq
        have HR := HR.below hbq
        have H8 := H8.below hbq
        have H9 := H9.below hbq
        have HT := HT.later hbq
        have HS := hy
        clear hy
        clear hbq
        (refine hK.out _ _ (⟨HT.a.1, HT.b.1, H7.1⟩) (fun hHeld => ?_); clear hK K; (try simp only [Act.put, List.setIfInBounds_toArray, List.set_cons_zero, List.set_cons_succ]))
        have Hc := H8
        obtain ⟨cs, fs, zs⟩ := Hc
        (refine held_call 9 rfl (by kernel_rfl) (fun K hK => ?_); go_simp)
        clear cs fs zs
        obtain ⟨wn, hwn⟩ : ∃ W, W = puts wk5 b8 0 [.slice ra0 l2.length rc0, .slice ra1 g2.length rc1, .slice ra2 h2.length rc2, .slice va3 q1.length vc3] := ⟨_, rfl⟩
        have hch : ((((wk5.setCell ⟨b8, 0, none⟩ (.slice ra0 l2.length rc0)).setCell ⟨b8, 1, none⟩ (.slice ra1 g2.length rc1)).setCell ⟨b8, 2, none⟩ (.slice ra2 h2.length rc2)).setCell ⟨b8, 3, none⟩ (.slice va3 q1.length vc3)) = wn := hwn.symm
        rw [hch]
        clear hch
        have HBS : BlkS wk5 b8 4 := ⟨_, H8, rfl, by simp [isSl]⟩
        have HT := HT.puts (g := b8) (by omega) [.slice ra0 l2.length rc0, .slice ra1 g2.length rc1, .slice ra2 h2.length rc2, .slice va3 q1.length vc3]
        have HX := HX.puts [.slice ra0 l2.length rc0, .slice ra1 g2.length rc1, .slice ra2 h2.length rc2, .slice va3 q1.length vc3] HBS (by simp) (by simp [isSl])
        have HR := HR.puts [.slice ra0 l2.length rc0, .slice ra1 g2.length rc1, .slice ra2 h2.length rc2, .slice va3 q1.length vc3] HBS (by simp) (by simp [isSl])
        have HS := HS.puts [.slice ra0 l2.length rc0, .slice ra1 g2.length rc1, .slice ra2 h2.length rc2, .slice va3 q1.length vc3] HBS (by simp) (by simp [isSl])
        have H7 := H7.puts_far (g := b8) (by omega) [.slice ra0 l2.length rc0, .slice ra1 g2.length rc1, .slice ra2 h2.length rc2, .slice va3 q1.length vc3] 0 wk5
        have H8 := H8.four (.slice ra0 l2.length rc0) (.slice ra1 g2.length rc1) (.slice ra2 h2.length rc2) (.slice va3 q1.length vc3)
        have H9 := H9.puts_far (g := b8) (by omega) [.slice ra0 l2.length rc0, .slice ra1 g2.length rc1, .slice ra2 h2.length rc2, .slice va3 q1.length vc3] 0 wk5
        rw [← hwn] at HT HX HR HS H7 H8 H9
        clear hwn HBS
        (refine hK.out _ _ (⟨HT.a.1, HT.b.1, H7.1⟩) (fun hHeld => ?_); clear hK K; (try simp only [Act.put, List.setIfInBounds_toArray, List.set_cons_zero, List.set_cons_succ]))
        generalize wn = wn8 at *
        have Hc := H9
        obtain ⟨cs, fs, zs⟩ := Hc
        (refine held_call 10 rfl (by kernel_rfl) (fun K hK => ?_); go_simp)
        clear cs fs zs
        obtain ⟨wn, hwn⟩ : ∃ W, W = puts wn8 b9 0 [.slice sa0 l1.length sc0, .slice sa1 g1.length sc1, .slice sa2 h1.length sc2, .slice ua3 q2.length uc3] := ⟨_, rfl⟩
        have hch : ((((wn8.setCell ⟨b9, 0, none⟩ (.slice sa0 l1.length sc0)).setCell ⟨b9, 1, none⟩ (.slice sa1 g1.length sc1)).setCell ⟨b9, 2, none⟩ (.slice sa2 h1.length sc2)).setCell ⟨b9, 3, none⟩ (.slice ua3 q2.length uc3)) = wn := hwn.symm
        rw [hch]
        clear hch
        have HBS : BlkS wn8 b9 4 := ⟨_, H9, rfl, by simp [isSl]⟩
        have HT := HT.puts (g := b9) (by omega) [.slice sa0 l1.length sc0, .slice sa1 g1.length sc1, .slice sa2 h1.length sc2, .slice ua3 q2.length uc3]
        have HX := HX.puts [.slice sa0 l1.length sc0, .slice sa1 g1.length sc1, .slice sa2 h1.length sc2, .slice ua3 q2.length uc3] HBS (by simp) (by simp [isSl])
        have HR := HR.puts [.slice sa0 l1.length sc0, .slice sa1 g1.length sc1, .slice sa2 h1.length sc2, .slice ua3 q2.length uc3] HBS (by simp) (by simp [isSl])
        have HS := HS.puts [.slice sa0 l1.length sc0, .slice sa1 g1.length sc1, .slice sa2 h1.length sc2, .slice ua3 q2.length uc3] HBS (by simp) (by simp [isSl])
        have H7 := H7.puts_far (g := b9) (by omega) [.slice sa0 l1.length sc0, .slice sa1 g1.length sc1, .slice sa2 h1.length sc2, .slice ua3 q2.length uc3] 0 wn8
        have H9 := H9.four (.slice sa0 l1.length sc0) (.slice sa1 g1.length sc1) (.slice sa2 h1.length sc2) (.slice ua3 q2.length uc3)
        have H8 := H8.puts_far (g := b9) (by omega) [.slice sa0 l1.length sc0, .slice sa1 g1.length sc1, .slice sa2 h1.length sc2, .slice ua3 q2.length uc3] 0 wn8
        rw [← hwn] at HT HX HR HS H7 H8 H9
        clear hwn HBS
        (refine hK.out _ _ (⟨HT.a.1, HT.b.1, H7.1⟩) (fun hHeld => ?_); clear hK K; (try simp only [Act.put, List.setIfInBounds_toArray, List.set_cons_zero, List.set_cons_succ]))
        refine wpAnyH_done (by kernel_rfl) ?_ _
        go_wp2_with fail
        go_meet
        exact ⟨b8, b9, ra0, rc0, sa0, sc0, ra1, rc1, sa1, sc1, ra2, rc2, sa2, sc2, rfl, rfl, by omega, by omega, by omega, Lib.hid ⟨HT, H7, H8, H9, HX, HR, HS⟩⟩
  case rest =>
    clear HT AP1 AP2 H7 HX
    obtain ⟨b8, b9, ra0, rc0, sa0, sc0, ra1, rc1, sa1, sc1, ra2, rc2, sa2, sc2, rfl, rfl, lo8, lo9, ne89, HD⟩ := hcut
    rename World => wc
    have HD := HD.out
    go_wp2_with fail
    refine wp_region_held_drew (S := (fun W => (∀ o, W.cell? ⟨w.heap.size, o, none⟩ = (#[.slice va0 l1.length vc0, .slice va1 g1.length vc1, .slice va2 h1.length vc2, .slice va3 q1.length vc3] : Array Value)[o]?) ∧ (∀ o, W.cell? ⟨w.heap.size + 1, o, none⟩ = (#[.slice ua0 l2.length uc0, .slice ua1 g2.length uc1, .slice ua2 h2.length uc2, .slice ua3 q2.length uc3] : Array Value)[o]?))) (by kernel_rfl) (by have HD := HD.later (below_drew (Below.refl _ _)); exact ⟨HD.t.a.1, HD.t.b.1⟩) (fun hHeld => ?_)
    have HD := HD.later (below_drew (Below.refl _ _))
    obtain ⟨wk, hwk⟩ : ∃ W, W = wc.drew := ⟨_, rfl⟩
    rw [← hwk] at HD hHeld ⊢
    clear hwk
    (refine held_yes (v := ?_) 0 rfl (by kernel_rfl) (by kernel_rfl) (by kernel_rfl) (fun _ _ _ h => h) (by rfl) (by assumption) ?_ ?_; rotate_left; focus ((intro w hSw); (try dsimp only at hSw); go_simp; (try with_reducible rfl)); (try simp only [Act.put, List.setIfInBounds_toArray, List.set_cons_zero, List.set_cons_succ])); (refine held_yes (v := ?_) 1 rfl (by kernel_rfl) (by kernel_rfl) (by kernel_rfl) (fun _ _ _ h => h) (by rfl) (by assumption) ?_ ?_; rotate_left; focus ((intro w hSw); (try dsimp only at hSw); go_simp; (try with_reducible rfl)); (try simp only [Act.put, List.setIfInBounds_toArray, List.set_cons_zero, List.set_cons_succ])); (refine held_yes (v := ?_) 2 rfl (by kernel_rfl) (by kernel_rfl) (by kernel_rfl) (fun _ _ _ h => h) (by rfl) (by assumption) ?_ ?_; rotate_left; focus ((intro w hSw); (try dsimp only at hSw); go_simp; (try with_reducible rfl)); (try simp only [Act.put, List.setIfInBounds_toArray, List.set_cons_zero, List.set_cons_succ])); (refine held_yes (v := ?_) 3 rfl (by kernel_rfl) (by kernel_rfl) (by kernel_rfl) (fun _ _ _ h => h) (by rfl) (by assumption) ?_ ?_; rotate_left; focus ((intro w hSw); (try dsimp only at hSw); go_simp; (try with_reducible rfl)); (try simp only [Act.put, List.setIfInBounds_toArray, List.set_cons_zero, List.set_cons_succ])); (refine held_yes (v := ?_) 4 rfl (by kernel_rfl) (by kernel_rfl) (by kernel_rfl) (fun _ _ _ h => h) (by rfl) (by assumption) ?_ ?_; rotate_left; focus ((intro w hSw); (try dsimp only at hSw); go_simp; (try with_reducible rfl)); (try simp only [Act.put, List.setIfInBounds_toArray, List.set_cons_zero, List.set_cons_succ]))
    have HBS : BlkS _ b8 4 := ⟨_, HD.h8, rfl, by simp [isSl]⟩
    have Hc := HD.h8
    obtain ⟨cs, fs, zs⟩ := Hc
    (refine held_call 5 rfl (by kernel_rfl) (fun K hK => ?_); go_simp)
    clear cs fs zs
    have HD := HD.last8 (v := .slice ua3 q2.length uc3) HBS lo7 lo8 ne89
    clear HBS
    generalize wk.setCell ⟨b8, 3, none⟩ (.slice ua3 q2.length uc3) = wk5 at HD ⊢
    (refine hK.out _ _ (⟨HD.t.a.1, HD.t.b.1⟩) (fun hHeld => ?_); clear hK K; (try simp only [Act.put, List.setIfInBounds_toArray, List.set_cons_zero, List.set_cons_succ]))
    (refine held_yes (v := ?_) 6 rfl (by kernel_rfl) (by kernel_rfl) (by kernel_rfl) (fun _ _ _ h => h) (by rfl) (by assumption) ?_ ?_; rotate_left; focus ((intro w hSw); (try dsimp only at hSw); go_simp; (try with_reducible rfl)); (try simp only [Act.put, List.setIfInBounds_toArray, List.set_cons_zero, List.set_cons_succ]))
    have HBS : BlkS _ b9 4 := ⟨_, HD.h9, rfl, by simp [isSl]⟩
    have Hc := HD.h9
    obtain ⟨cs, fs, zs⟩ := Hc
    (refine held_call 7 rfl (by kernel_rfl) (fun K hK => ?_); go_simp)
    clear cs fs zs
    have HD := HD.last9 (v := .slice va3 q1.length vc3) HBS lo7 lo9 ne89
    clear HBS
    generalize wk5.setCell ⟨b9, 3, none⟩ (.slice va3 q1.length vc3) = wk7 at HD ⊢
    (refine hK.out _ _ (⟨HD.t.a.1, HD.t.b.1⟩) (fun hHeld => ?_); clear hK K; (try simp only [Act.put, List.setIfInBounds_toArray, List.set_cons_zero, List.set_cons_succ]))
    refine wpAnyH_done (by kernel_rfl) ?_ _
    have HD := Lib.hid HD
    obtain ⟨ca, fa, za⟩ := HD.out.t.a
    obtain ⟨cb, fb, zb⟩ := HD.out.t.b
    have l8 := HD.out.h8.2.2
    have l9 := HD.out.h9.2.2
    have BKS7 : ∀ V, Below wk7.heap.size wk7 V → Bks w #[.slice va0 l1.length vc0, .slice va1 g1.length vc1, .slice va2 h1.length vc2, .slice va3 q1.length vc3] #[.slice ua0 l2.length uc0, .slice ua1 g2.length uc1, .slice ua2 h2.length uc2, .slice ua3 q2.length uc3] d b7 b8 b9 #[.slice xa0 d.more.length xc0, .slice xa1 d.gone.length xc1, .slice xa2 d.grow.length xc2, .slice xa3 d.ungrow.length xc3, .slice xa4 d.shrink.length xc4, .slice xa5 d.unshrink.length xc5] #[.slice ra0 l2.length rc0, .slice ra1 g2.length rc1, .slice ra2 h2.length rc2, .slice ua3 q2.length uc3] #[.slice sa0 l1.length sc0, .slice sa1 g1.length sc1, .slice sa2 h1.length sc2, .slice va3 q1.length vc3] (.slice xa0 d.more.length xc0) (.slice xa1 d.gone.length xc1) (.slice xa2 d.grow.length xc2) (.slice xa3 d.ungrow.length xc3) (.slice xa4 d.shrink.length xc4) (.slice xa5 d.unshrink.length xc5) (.slice ra0 l2.length rc0) (.slice ra1 g2.length rc1) (.slice ra2 h2.length rc2) (.slice sa0 l1.length sc0) (.slice sa1 g1.length sc1) (.slice sa2 h1.length sc2) l1 l2 g1 h1 g2 h2 V := fun V hb => HD.out.later hb
    have BKS7 := Lib.hid BKS7
    clear HD
    go_upto_region 8 with fail
    obtain ⟨w6, hw6⟩ : ∃ W, W = wk7.alloc (.cells #[.slice va0 l1.length vc0, .slice va1 g1.length vc1, .slice va2 h1.length vc2, .slice va3 q1.length vc3] 26) := ⟨_, rfl⟩
    obtain ⟨b10, hb10⟩ : ∃ b, b = wk7.heap.size := ⟨_, rfl⟩
    have HD := BKS7.out w6 (by rw [hw6]; exact (Below.refl _ _).alloc (Nat.le_refl _) _)
    have H10 : Blk w6 b10 #[.slice va0 l1.length vc0, .slice va1 g1.length vc1, .slice va2 h1.length vc2, .slice va3 q1.length vc3] := by rw [hw6, hb10]; exact Blk.new _ _ _
    rw [← hw6, ← hb10]
    rw [← hb10] at l8 l9
    have HD := Lib.hid HD
    have H10 := Lib.hid H10
    clear hw6 hb10 BKS7 ca fa za cb fb zb
    go_cut [58] (fun s58 wx => ∃ (ga : Option Addr) (gc : Nat) (ha : Option Addr) (hc' : Nat), Hid (Bks w #[.slice va0 l1.length vc0, .slice va1 g1.length vc1, .slice va2 h1.length vc2, .slice va3 q1.length vc3] #[.slice ua0 l2.length uc0, .slice ua1 g2.length uc1, .slice ua2 h2.length uc2, .slice ua3 q2.length uc3] d b7 b8 b9 #[.slice xa0 d.more.length xc0, .slice xa1 d.gone.length xc1, .slice xa2 d.grow.length xc2, .slice xa3 d.ungrow.length xc3, .slice xa4 d.shrink.length xc4, .slice xa5 d.unshrink.length xc5] #[.slice ra0 l2.length rc0, .slice ra1 g2.length rc1, .slice ra2 h2.length rc2, .slice ua3 q2.length uc3] #[.slice sa0 l1.length sc0, .slice sa1 g1.length sc1, .slice sa2 h1.length sc2, .slice va3 q1.length vc3] (.slice xa0 d.more.length xc0) (.slice xa1 d.gone.length xc1) (.slice xa2 d.grow.length xc2) (.slice xa3 d.ungrow.length xc3) (.slice xa4 d.shrink.length xc4) (.slice xa5 d.unshrink.length xc5) (.slice ra0 l2.length rc0) (.slice ra1 g2.length rc1) (.slice ra2 h2.length rc2) (.slice sa0 l1.length sc0) (.slice sa1 g1.length sc1) (.slice sa2 h1.length sc2) l1 l2 g1 h1 g2 h2 wx) ∧ Hid (Blk wx b10 #[.slice va0 l1.length vc0, .slice ga (g2.length + g1.length) gc, .slice ha (h2.length + h1.length) hc', .slice va3 q1.length vc3]) ∧ Hid (Sl wx 2 (.slice ga (g2.length + g1.length) gc) (g2 ++ g1).length ((g2 ++ g1).flatMap Rl.cells)) ∧ Hid (Sl wx 2 (.slice ha (h2.length + h1.length) hc') (h2 ++ h1).length ((h2 ++ h1).flatMap Rl.cells)))
    case first =>
      clear TG RC1 RC2 RM SX SY OF2 EC HL HC
      have HD := HD.out
      have H10 := H10.out
      obtain ⟨infr, hir, hr0, hr1, hr2⟩ := info_parts rl_info'
      have HIR := Lib.hid hir
      clear hir
      refine wp_region_held_drew (S := (fun W => (∀ o, W.cell? ⟨w.heap.size, o, none⟩ = (#[.slice va0 l1.length vc0, .slice va1 g1.length vc1, .slice va2 h1.length vc2, .slice va3 q1.length vc3] : Array Value)[o]?) ∧ (∀ o, W.cell? ⟨w.heap.size + 1, o, none⟩ = (#[.slice ua0 l2.length uc0, .slice ua1 g2.length uc1, .slice ua2 h2.length uc2, .slice ua3 q2.length uc3] : Array Value)[o]?))) (by kernel_rfl) (by have HD := HD.later (below_drew (Below.refl _ _)); exact ⟨HD.t.a.1, HD.t.b.1⟩) (fun hHeld => ?_)
      have HD := HD.later (below_drew (Below.refl _ _))
      have H10 := H10.below (below_drew (Below.refl _ _))
      obtain ⟨wk, hwk⟩ : ∃ W, W = w6.drew := ⟨_, rfl⟩
      rw [← hwk] at HD H10 hHeld ⊢
      clear hwk
      have HB := Below.refl wk.heap.size wk
      (refine held_yes (v := ?_) 1 rfl (by kernel_rfl) (by kernel_rfl) (by kernel_rfl) (fun _ _ _ h => h) (by rfl) (by assumption) ?_ ?_; rotate_left; focus ((intro w hSw); (try dsimp only at hSw); go_simp; (try with_reducible rfl)); (try simp only [Act.put, List.setIfInBounds_toArray, List.set_cons_zero, List.set_cons_succ])); (refine held_yes (v := ?_) 2 rfl (by kernel_rfl) (by kernel_rfl) (by kernel_rfl) (fun _ _ _ h => h) (by rfl) (by assumption) ?_ ?_; rotate_left; focus ((intro w hSw); (try dsimp only at hSw); go_simp; (try with_reducible rfl)); (try simp only [Act.put, List.setIfInBounds_toArray, List.set_cons_zero, List.set_cons_succ])); (refine held_yes (v := ?_) 4 rfl (by kernel_rfl) (by kernel_rfl) (by kernel_rfl) (fun _ _ _ h => h) (by rfl) (by assumption) ?_ ?_; rotate_left; focus ((intro w hSw); (try dsimp only at hSw); go_simp; (try with_reducible rfl)); (try simp only [Act.put, List.setIfInBounds_toArray, List.set_cons_zero, List.set_cons_succ])); (refine held_yes (v := ?_) 5 rfl (by kernel_rfl) (by kernel_rfl) (by kernel_rfl) (fun _ _ _ h => h) (by rfl) (by assumption) ?_ ?_; rotate_left; focus ((intro w hSw); (try dsimp only at hSw); go_simp; (try with_reducible rfl)); (try simp only [Act.put, List.setIfInBounds_toArray, List.set_cons_zero, List.set_cons_succ])); (refine held_yes (v := ?_) 8 rfl (by kernel_rfl) (by kernel_rfl) (by kernel_rfl) (fun _ _ _ h => h) (by rfl) (by assumption) ?_ ?_; rotate_left; focus ((intro w hSw); (try dsimp only at hSw); go_simp; (try with_reducible rfl)); (try simp only [Act.put, List.setIfInBounds_toArray, List.set_cons_zero, List.set_cons_succ])); (refine held_yes (v := ?_) 9 rfl (by kernel_rfl) (by kernel_rfl) (by kernel_rfl) (fun _ _ _ h => h) (by rfl) (by assumption) ?_ ?_; rotate_left; focus ((intro w hSw); (try dsimp only at hSw); go_simp; (try with_reducible rfl)); (try simp only [Act.put, List.setIfInBounds_toArray, List.set_cons_zero, List.set_cons_succ])); (refine held_yes (v := ?_) 11 rfl (by kernel_rfl) (by kernel_rfl) (by kernel_rfl) (fun _ _ _ h => h) (by rfl) (by assumption) ?_ ?_; rotate_left; focus ((intro w hSw); (try dsimp only at hSw); go_simp; (try with_reducible rfl)); (try simp only [Act.put, List.setIfInBounds_toArray, List.set_cons_zero, List.set_cons_succ])); (refine held_yes (v := ?_) 12 rfl (by kernel_rfl) (by kernel_rfl) (by kernel_rfl) (fun _ _ _ h => h) (by rfl) (by assumption) ?_ ?_; rotate_left; focus ((intro w hSw); (try dsimp only at hSw); go_simp; (try with_reducible rfl)); (try simp only [Act.put, List.setIfInBounds_toArray, List.set_cons_zero, List.set_cons_succ]))
      refine wpAnyH_ready (rs := [0, 7]) (by kernel_rfl) (by simp) (AllReadyH.cons rfl (fun K hK => ?_) (AllReadyH.cons rfl (fun K hK => ?_) AllReadyH.nil))
      · go_simp
        obtain ⟨wk1, hwn⟩ : ∃ V, V = wk.alloc (.cells #[] 50) := ⟨_, rfl⟩
        obtain ⟨bg, hbg⟩ : ∃ b, b = wk.heap.size := ⟨_, rfl⟩
        rw [← hwn, ← hbg]
        have HG : wk1.ownsRow wk.heap.size 50 2 (.slice (some ⟨bg, 0, none⟩) 0 0) 0 [] := by rw [hwn, hbg]; exact World.ownsRow_made wk #[] 0 HB.size (Nat.zero_le _) (by simp)
        have HB : Below wk.heap.size wk wk1 := by rw [hwn]; exact HB.alloc HB.size _
        clear hwn hbg
        (refine hK.out _ _ (have HDW := HD.later HB; ⟨HDW.t.a.1, HDW.t.b.1⟩) (fun hHeld => ?_); clear hK K; (try simp only [Act.put, List.setIfInBounds_toArray, List.set_cons_zero, List.set_cons_succ]))
        refine wpAnyH_ready (rs := [3, 7]) (by kernel_rfl) (by simp) (AllReadyH.cons rfl (fun K hK => ?_) (AllReadyH.cons rfl (fun K hK => ?_) AllReadyH.nil))
        · have hlo := HD.t.low.trans (HB.mono HD.t.low.size)
          refine step_rowE rfl _ _ 23 rfl wk.heap.size 50 infr _ 2 32 Tryz.underlying23 HIR.out hr0 hr1 hr2 (Nat.le_of_ble_eq_true rfl) rfl (Nat.le_of_ble_eq_true rfl) _ 0 [] rfl HG _ g2.length _ rfl (HP2.out.rg.below hlo) (rls_one _) (by omega) HB.size ?_
          intro ga gc wk2 hown5 hg5 hE
          rw [Nat.zero_add] at hown5 hE ⊢
          have HB := below_own HB HG hg5 HB.size (Nat.le_refl _)
          have HG : wk2.ownsRow wk.heap.size 50 2 (.slice ga g2.length gc) g2.length (g2.flatMap Rl.cells) := hown5
          clear hown5 hg5 hE hlo
          (refine hK.out _ _ (have HDW := HD.later HB; ⟨HDW.t.a.1, HDW.t.b.1⟩) (fun hHeld => ?_); clear hK K; (try simp only [Act.put, List.setIfInBounds_toArray, List.set_cons_zero, List.set_cons_succ]))
          refine wpAnyH_ready (rs := [6, 7]) (by kernel_rfl) (by simp) (AllReadyH.cons rfl (fun K hK => ?_) (AllReadyH.cons rfl (fun K hK => ?_) AllReadyH.nil))
          · have hlo := HD.t.low.trans (HB.mono HD.t.low.size)
            refine step_rowE rfl _ _ 23 rfl wk.heap.size 50 infr _ 2 32 Tryz.underlying23 HIR.out hr0 hr1 hr2 (Nat.le_of_ble_eq_true rfl) rfl (Nat.le_of_ble_eq_true rfl) _ g2.length (g2.flatMap Rl.cells) rfl HG _ g1.length _ rfl (HP1.out.rg.below hlo) (rls_one _) (by omega) HB.size ?_
            intro ga gc wk3 hown5 hg5 hE
            have HB := below_own HB HG hg5 HB.size (Nat.le_refl _)
            have HG : wk3.ownsRow wk.heap.size 50 2 (.slice ga (g2.length + g1.length) gc) (g2.length + g1.length) (g2.flatMap Rl.cells ++ g1.flatMap Rl.cells) := hown5
            clear hown5 hg5 hE hlo
            (refine hK.out _ _ (have HDW := HD.later HB; ⟨HDW.t.a.1, HDW.t.b.1⟩) (fun hHeld => ?_); clear hK K; (try simp only [Act.put, List.setIfInBounds_toArray, List.set_cons_zero, List.set_cons_succ]))
            (refine held_yes (v := ?_) 14 rfl (by kernel_rfl) (by kernel_rfl) (by kernel_rfl) (fun _ _ _ h => h) (by rfl) (by assumption) ?_ ?_; rotate_left; focus ((intro w hSw); (try dsimp only at hSw); go_simp; (try with_reducible rfl)); (try simp only [Act.put, List.setIfInBounds_toArray, List.set_cons_zero, List.set_cons_succ]))
            (refine held_call 7 rfl (by kernel_rfl) (fun K hK => ?_); go_simp)
            obtain ⟨wk4, hwn⟩ : ∃ V, V = wk3.alloc (.cells #[] 50) := ⟨_, rfl⟩
            obtain ⟨bh, hbh⟩ : ∃ b, b = wk3.heap.size := ⟨_, rfl⟩
            rw [← hwn, ← hbh]
            have HT2 := RowsTwo.new HB HG
            rw [← hwn, ← hbh] at HT2
            have HB := HT2.low
            clear HG
            clear hwn hbh
            (refine hK.out _ _ (have HDW := HD.later HB; ⟨HDW.t.a.1, HDW.t.b.1⟩) (fun hHeld => ?_); clear hK K; (try simp only [Act.put, List.setIfInBounds_toArray, List.set_cons_zero, List.set_cons_succ]))
            refine held_call 10 rfl (by kernel_rfl) (fun K hK => ?_)
            have hlo := HD.t.low.trans (HB.mono HD.t.low.size)
            refine step_rowE rfl _ _ 23 rfl wk.heap.size 50 infr _ 2 32 Tryz.underlying23 HIR.out hr0 hr1 hr2 (Nat.le_of_ble_eq_true rfl) rfl (Nat.le_of_ble_eq_true rfl) _ 0 [] rfl HT2.o2 _ h2.length _ rfl (HP2.out.rh.below hlo) (rls_one _) (by omega) HB.size ?_
            intro ha hc' wk5 hown5 hg5 hE
            rw [Nat.zero_add] at hown5 hE ⊢
            have HT2 := HT2.grow2 (y := (h2.flatMap Rl.cells)) hown5 hg5 hE
            have HB := HT2.low
            clear hown5 hg5 hE hlo
            (refine hK.out _ _ (have HDW := HD.later HB; ⟨HDW.t.a.1, HDW.t.b.1⟩) (fun hHeld => ?_); clear hK K; (try simp only [Act.put, List.setIfInBounds_toArray, List.set_cons_zero, List.set_cons_succ]))
            refine held_call 13 rfl (by kernel_rfl) (fun K hK => ?_)
            have hlo := HD.t.low.trans (HB.mono HD.t.low.size)
            refine step_rowE rfl _ _ 23 rfl wk.heap.size 50 infr _ 2 32 Tryz.underlying23 HIR.out hr0 hr1 hr2 (Nat.le_of_ble_eq_true rfl) rfl (Nat.le_of_ble_eq_true rfl) _ h2.length (h2.flatMap Rl.cells) rfl HT2.o2 _ h1.length _ rfl (HP1.out.rh.below hlo) (rls_one _) (by omega) HB.size ?_
            intro ha hc' wk6 hown5 hg5 hE
            have HT2 := HT2.grow2 (y := (h2.flatMap Rl.cells ++ h1.flatMap Rl.cells)) hown5 hg5 hE
            have HB := HT2.low
            clear hown5 hg5 hE hlo
            (refine hK.out _ _ (have HDW := HD.later HB; ⟨HDW.t.a.1, HDW.t.b.1⟩) (fun hHeld => ?_); clear hK K; (try simp only [Act.put, List.setIfInBounds_toArray, List.set_cons_zero, List.set_cons_succ]))
            have HD := HD.later HB
            have H10 := H10.below HB
            have HSG : Sl wk6 2 (.slice ga (g2.length + g1.length) gc) (g2 ++ g1).length ((g2 ++ g1).flatMap Rl.cells) := by rw [List.length_append, List.flatMap_append]; exact Sl.of_own HT2.o1
            have HSH : Sl wk6 2 (.slice ha (h2.length + h1.length) hc') (h2 ++ h1).length ((h2 ++ h1).flatMap Rl.cells) := by rw [List.length_append, List.flatMap_append]; exact Sl.of_own HT2.o2
            clear HT2 HB
            have HBS : BlkS wk6 b10 4 := ⟨_, H10, rfl, by simp [isSl]⟩
            have Hc := H10
            obtain ⟨cs, fs, zs⟩ := Hc
            (refine held_call 15 rfl (by kernel_rfl) (fun K hK => ?_); go_simp)
            clear cs fs zs
            have HD := HD.far (o := 1) (v := .slice ga (g2.length + g1.length) gc) HBS lo7 (by omega) l8 l9
            have H10 : Blk (wk6.setCell ⟨b10, 1, none⟩ (.slice ga (g2.length + g1.length) gc)) b10 #[.slice va0 l1.length vc0, .slice ga (g2.length + g1.length) gc, .slice va2 h1.length vc2, .slice va3 q1.length vc3] := by have := H10.put (o := 1) (v := .slice ga (g2.length + g1.length) gc) (by simp); simpa using this
            have HSG := HSG.set (o := 1) (x := .slice ga (g2.length + g1.length) gc) HBS (rl_noSl _)
            have HSH := HSH.set (o := 1) (x := .slice ga (g2.length + g1.length) gc) HBS (rl_noSl _)
            clear HBS
            generalize wk6.setCell ⟨b10, 1, none⟩ (.slice ga (g2.length + g1.length) gc) = ws15 at HD H10 HSG HSH ⊢
            (refine hK.out _ _ (⟨HD.t.a.1, HD.t.b.1⟩) (fun hHeld => ?_); clear hK K; (try simp only [Act.put, List.setIfInBounds_toArray, List.set_cons_zero, List.set_cons_succ]))
            (refine held_yes (v := ?_) 16 rfl (by kernel_rfl) (by kernel_rfl) (by kernel_rfl) (fun _ _ _ h => h) (by rfl) (by assumption) ?_ ?_; rotate_left; focus ((intro w hSw); (try dsimp only at hSw); go_simp; (try with_reducible rfl)); (try simp only [Act.put, List.setIfInBounds_toArray, List.set_cons_zero, List.set_cons_succ]))
            have HBS : BlkS ws15 b10 4 := ⟨_, H10, rfl, by simp [isSl]⟩
            have Hc := H10
            obtain ⟨cs, fs, zs⟩ := Hc
            (refine held_call 17 rfl (by kernel_rfl) (fun K hK => ?_); go_simp)
            clear cs fs zs
            have HD := HD.far (o := 2) (v := .slice ha (h2.length + h1.length) hc') HBS lo7 (by omega) l8 l9
            have H10 : Blk (ws15.setCell ⟨b10, 2, none⟩ (.slice ha (h2.length + h1.length) hc')) b10 #[.slice va0 l1.length vc0, .slice ga (g2.length + g1.length) gc, .slice ha (h2.length + h1.length) hc', .slice va3 q1.length vc3] := by have := H10.put (o := 2) (v := .slice ha (h2.length + h1.length) hc') (by simp); simpa using this
            have HSG := HSG.set (o := 2) (x := .slice ha (h2.length + h1.length) hc') HBS (rl_noSl _)
            have HSH := HSH.set (o := 2) (x := .slice ha (h2.length + h1.length) hc') HBS (rl_noSl _)
            clear HBS
            generalize ws15.setCell ⟨b10, 2, none⟩ (.slice ha (h2.length + h1.length) hc') = ws17 at HD H10 HSG HSH ⊢
            (refine hK.out _ _ (⟨HD.t.a.1, HD.t.b.1⟩) (fun hHeld => ?_); clear hK K; (try simp only [Act.put, List.setIfInBounds_toArray, List.set_cons_zero, List.set_cons_succ]))
            refine wpAnyH_done (by kernel_rfl) ?_ _
            go_wp2_with fail
            go_meet
            exact ⟨ga, gc, ha, hc', Lib.hid HD, Lib.hid H10, Lib.hid HSG, Lib.hid HSH⟩
          · go_simp
            obtain ⟨wk3, hwn⟩ : ∃ V, V = wk2.alloc (.cells #[] 50) := ⟨_, rfl⟩
            obtain ⟨bh, hbh⟩ : ∃ b, b = wk2.heap.size := ⟨_, rfl⟩
            rw [← hwn, ← hbh]
            have HT2 := RowsTwo.new HB HG
            rw [← hwn, ← hbh] at HT2
            have HB := HT2.low
            clear HG
            clear hwn hbh
            (refine hK.out _ _ (have HDW := HD.later HB; ⟨HDW.t.a.1, HDW.t.b.1⟩) (fun hHeld => ?_); clear hK K; (try simp only [Act.put, List.setIfInBounds_toArray, List.set_cons_zero, List.set_cons_succ]))
            refine held_call 6 rfl (by kernel_rfl) (fun K hK => ?_)
            have hlo := HD.t.low.trans (HB.mono HD.t.low.size)
            refine step_rowE rfl _ _ 23 rfl wk.heap.size 50 infr _ 2 32 Tryz.underlying23 HIR.out hr0 hr1 hr2 (Nat.le_of_ble_eq_true rfl) rfl (Nat.le_of_ble_eq_true rfl) _ g2.length (g2.flatMap Rl.cells) rfl HT2.o1 _ g1.length _ rfl (HP1.out.rg.below hlo) (rls_one _) (by omega) HB.size ?_
            intro ga gc wk4 hown5 hg5 hE
            have HT2 := HT2.grow1 (y := (g2.flatMap Rl.cells ++ g1.flatMap Rl.cells)) hown5 hg5 hE
            have HB := HT2.low
            clear hown5 hg5 hE hlo
            (refine hK.out _ _ (have HDW := HD.later HB; ⟨HDW.t.a.1, HDW.t.b.1⟩) (fun hHeld => ?_); clear hK K; (try simp only [Act.put, List.setIfInBounds_toArray, List.set_cons_zero, List.set_cons_succ]))
            (refine held_yes (v := ?_) 14 rfl (by kernel_rfl) (by kernel_rfl) (by kernel_rfl) (fun _ _ _ h => h) (by rfl) (by assumption) ?_ ?_; rotate_left; focus ((intro w hSw); (try dsimp only at hSw); go_simp; (try with_reducible rfl)); (try simp only [Act.put, List.setIfInBounds_toArray, List.set_cons_zero, List.set_cons_succ]))
            refine held_call 10 rfl (by kernel_rfl) (fun K hK => ?_)
            have hlo := HD.t.low.trans (HB.mono HD.t.low.size)
            refine step_rowE rfl _ _ 23 rfl wk.heap.size 50 infr _ 2 32 Tryz.underlying23 HIR.out hr0 hr1 hr2 (Nat.le_of_ble_eq_true rfl) rfl (Nat.le_of_ble_eq_true rfl) _ 0 [] rfl HT2.o2 _ h2.length _ rfl (HP2.out.rh.below hlo) (rls_one _) (by omega) HB.size ?_
            intro ha hc' wk5 hown5 hg5 hE
            rw [Nat.zero_add] at hown5 hE ⊢
            have HT2 := HT2.grow2 (y := (h2.flatMap Rl.cells)) hown5 hg5 hE
            have HB := HT2.low
            clear hown5 hg5 hE hlo
            (refine hK.out _ _ (have HDW := HD.later HB; ⟨HDW.t.a.1, HDW.t.b.1⟩) (fun hHeld => ?_); clear hK K; (try simp only [Act.put, List.setIfInBounds_toArray, List.set_cons_zero, List.set_cons_succ]))
            refine held_call 13 rfl (by kernel_rfl) (fun K hK => ?_)
            have hlo := HD.t.low.trans (HB.mono HD.t.low.size)
            refine step_rowE rfl _ _ 23 rfl wk.heap.size 50 infr _ 2 32 Tryz.underlying23 HIR.out hr0 hr1 hr2 (Nat.le_of_ble_eq_true rfl) rfl (Nat.le_of_ble_eq_true rfl) _ h2.length (h2.flatMap Rl.cells) rfl HT2.o2 _ h1.length _ rfl (HP1.out.rh.below hlo) (rls_one _) (by omega) HB.size ?_
            intro ha hc' wk6 hown5 hg5 hE
            have HT2 := HT2.grow2 (y := (h2.flatMap Rl.cells ++ h1.flatMap Rl.cells)) hown5 hg5 hE
            have HB := HT2.low
            clear hown5 hg5 hE hlo
            (refine hK.out _ _ (have HDW := HD.later HB; ⟨HDW.t.a.1, HDW.t.b.1⟩) (fun hHeld => ?_); clear hK K; (try simp only [Act.put, List.setIfInBounds_toArray, List.set_cons_zero, List.set_cons_succ]))
            have HD := HD.later HB
            have H10 := H10.below HB
            have HSG : Sl wk6 2 (.slice ga (g2.length + g1.length) gc) (g2 ++ g1).length ((g2 ++ g1).flatMap Rl.cells) := by rw [List.length_append, List.flatMap_append]; exact Sl.of_own HT2.o1
            have HSH : Sl wk6 2 (.slice ha (h2.length + h1.length) hc') (h2 ++ h1).length ((h2 ++ h1).flatMap Rl.cells) := by rw [List.length_append, List.flatMap_append]; exact Sl.of_own HT2.o2
            clear HT2 HB
            have HBS : BlkS wk6 b10 4 := ⟨_, H10, rfl, by simp [isSl]⟩
            have Hc := H10
            obtain ⟨cs, fs, zs⟩ := Hc
            (refine held_call 15 rfl (by kernel_rfl) (fun K hK => ?_); go_simp)
            clear cs fs zs
            have HD := HD.far (o := 1) (v := .slice ga (g2.length + g1.length) gc) HBS lo7 (by omega) l8 l9
            have H10 : Blk (wk6.setCell ⟨b10, 1, none⟩ (.slice ga (g2.length + g1.length) gc)) b10 #[.slice va0 l1.length vc0, .slice ga (g2.length + g1.length) gc, .slice va2 h1.length vc2, .slice va3 q1.length vc3] := by have := H10.put (o := 1) (v := .slice ga (g2.length + g1.length) gc) (by simp); simpa using this
            have HSG := HSG.set (o := 1) (x := .slice ga (g2.length + g1.length) gc) HBS (rl_noSl _)
            have HSH := HSH.set (o := 1) (x := .slice ga (g2.length + g1.length) gc) HBS (rl_noSl _)
            clear HBS
            generalize wk6.setCell ⟨b10, 1, none⟩ (.slice ga (g2.length + g1.length) gc) = ws15 at HD H10 HSG HSH ⊢
            (refine hK.out _ _ (⟨HD.t.a.1, HD.t.b.1⟩) (fun hHeld => ?_); clear hK K; (try simp only [Act.put, List.setIfInBounds_toArray, List.set_cons_zero, List.set_cons_succ]))
            (refine held_yes (v := ?_) 16 rfl (by kernel_rfl) (by kernel_rfl) (by kernel_rfl) (fun _ _ _ h => h) (by rfl) (by assumption) ?_ ?_; rotate_left; focus ((intro w hSw); (try dsimp only at hSw); go_simp; (try with_reducible rfl)); (try simp only [Act.put, List.setIfInBounds_toArray, List.set_cons_zero, List.set_cons_succ]))
            have HBS : BlkS ws15 b10 4 := ⟨_, H10, rfl, by simp [isSl]⟩
            have Hc := H10
            obtain ⟨cs, fs, zs⟩ := Hc
            (refine held_call 17 rfl (by kernel_rfl) (fun K hK => ?_); go_simp)
            clear cs fs zs
            have HD := HD.far (o := 2) (v := .slice ha (h2.length + h1.length) hc') HBS lo7 (by omega) l8 l9
            have H10 : Blk (ws15.setCell ⟨b10, 2, none⟩ (.slice ha (h2.length + h1.length) hc')) b10 #[.slice va0 l1.length vc0, .slice ga (g2.length + g1.length) gc, .slice ha (h2.length + h1.length) hc', .slice va3 q1.length vc3] := by have := H10.put (o := 2) (v := .slice ha (h2.length + h1.length) hc') (by simp); simpa using this
            have HSG := HSG.set (o := 2) (x := .slice ha (h2.length + h1.length) hc') HBS (rl_noSl _)
            have HSH := HSH.set (o := 2) (x := .slice ha (h2.length + h1.length) hc') HBS (rl_noSl _)
            clear HBS
            generalize ws15.setCell ⟨b10, 2, none⟩ (.slice ha (h2.length + h1.length) hc') = ws17 at HD H10 HSG HSH ⊢
            (refine hK.out _ _ (⟨HD.t.a.1, HD.t.b.1⟩) (fun hHeld => ?_); clear hK K; (try simp only [Act.put, List.setIfInBounds_toArray, List.set_cons_zero, List.set_cons_succ]))
            refine wpAnyH_done (by kernel_rfl) ?_ _
            go_wp2_with fail
            go_meet
            exact ⟨ga, gc, ha, hc', Lib.hid HD, Lib.hid H10, Lib.hid HSG, Lib.hid HSH⟩
        · go_simp
          obtain ⟨wk2, hwn⟩ : ∃ V, V = wk1.alloc (.cells #[] 50) := ⟨_, rfl⟩
          obtain ⟨bh, hbh⟩ : ∃ b, b = wk1.heap.size := ⟨_, rfl⟩
          rw [← hwn, ← hbh]
          have HT2 := RowsTwo.new HB HG
          rw [← hwn, ← hbh] at HT2
          have HB := HT2.low
          clear HG
          clear hwn hbh
          (refine hK.out _ _ (have HDW := HD.later HB; ⟨HDW.t.a.1, HDW.t.b.1⟩) (fun hHeld => ?_); clear hK K; (try simp only [Act.put, List.setIfInBounds_toArray, List.set_cons_zero, List.set_cons_succ]))
          refine held_call 3 rfl (by kernel_rfl) (fun K hK => ?_)
          have hlo := HD.t.low.trans (HB.mono HD.t.low.size)
          refine step_rowE rfl _ _ 23 rfl wk.heap.size 50 infr _ 2 32 Tryz.underlying23 HIR.out hr0 hr1 hr2 (Nat.le_of_ble_eq_true rfl) rfl (Nat.le_of_ble_eq_true rfl) _ 0 [] rfl HT2.o1 _ g2.length _ rfl (HP2.out.rg.below hlo) (rls_one _) (by omega) HB.size ?_
          intro ga gc wk3 hown5 hg5 hE
          rw [Nat.zero_add] at hown5 hE ⊢
          have HT2 := HT2.grow1 (y := (g2.flatMap Rl.cells)) hown5 hg5 hE
          have HB := HT2.low
          clear hown5 hg5 hE hlo
          (refine hK.out _ _ (have HDW := HD.later HB; ⟨HDW.t.a.1, HDW.t.b.1⟩) (fun hHeld => ?_); clear hK K; (try simp only [Act.put, List.setIfInBounds_toArray, List.set_cons_zero, List.set_cons_succ]))
          refine held_call 6 rfl (by kernel_rfl) (fun K hK => ?_)
          have hlo := HD.t.low.trans (HB.mono HD.t.low.size)
          refine step_rowE rfl _ _ 23 rfl wk.heap.size 50 infr _ 2 32 Tryz.underlying23 HIR.out hr0 hr1 hr2 (Nat.le_of_ble_eq_true rfl) rfl (Nat.le_of_ble_eq_true rfl) _ g2.length (g2.flatMap Rl.cells) rfl HT2.o1 _ g1.length _ rfl (HP1.out.rg.below hlo) (rls_one _) (by omega) HB.size ?_
          intro ga gc wk4 hown5 hg5 hE
          have HT2 := HT2.grow1 (y := (g2.flatMap Rl.cells ++ g1.flatMap Rl.cells)) hown5 hg5 hE
          have HB := HT2.low
          clear hown5 hg5 hE hlo
          (refine hK.out _ _ (have HDW := HD.later HB; ⟨HDW.t.a.1, HDW.t.b.1⟩) (fun hHeld => ?_); clear hK K; (try simp only [Act.put, List.setIfInBounds_toArray, List.set_cons_zero, List.set_cons_succ]))
          (refine held_yes (v := ?_) 14 rfl (by kernel_rfl) (by kernel_rfl) (by kernel_rfl) (fun _ _ _ h => h) (by rfl) (by assumption) ?_ ?_; rotate_left; focus ((intro w hSw); (try dsimp only at hSw); go_simp; (try with_reducible rfl)); (try simp only [Act.put, List.setIfInBounds_toArray, List.set_cons_zero, List.set_cons_succ]))
          refine held_call 10 rfl (by kernel_rfl) (fun K hK => ?_)
          have hlo := HD.t.low.trans (HB.mono HD.t.low.size)
          refine step_rowE rfl _ _ 23 rfl wk.heap.size 50 infr _ 2 32 Tryz.underlying23 HIR.out hr0 hr1 hr2 (Nat.le_of_ble_eq_true rfl) rfl (Nat.le_of_ble_eq_true rfl) _ 0 [] rfl HT2.o2 _ h2.length _ rfl (HP2.out.rh.below hlo) (rls_one _) (by omega) HB.size ?_
          intro ha hc' wk5 hown5 hg5 hE
          rw [Nat.zero_add] at hown5 hE ⊢
          have HT2 := HT2.grow2 (y := (h2.flatMap Rl.cells)) hown5 hg5 hE
          have HB := HT2.low
          clear hown5 hg5 hE hlo
          (refine hK.out _ _ (have HDW := HD.later HB; ⟨HDW.t.a.1, HDW.t.b.1⟩) (fun hHeld => ?_); clear hK K; (try simp only [Act.put, List.setIfInBounds_toArray, List.set_cons_zero, List.set_cons_succ]))
          refine held_call 13 rfl (by kernel_rfl) (fun K hK => ?_)
          have hlo := HD.t.low.trans (HB.mono HD.t.low.size)
          refine step_rowE rfl _ _ 23 rfl wk.heap.size 50 infr _ 2 32 Tryz.underlying23 HIR.out hr0 hr1 hr2 (Nat.le_of_ble_eq_true rfl) rfl (Nat.le_of_ble_eq_true rfl) _ h2.length (h2.flatMap Rl.cells) rfl HT2.o2 _ h1.length _ rfl (HP1.out.rh.below hlo) (rls_one _) (by omega) HB.size ?_
          intro ha hc' wk6 hown5 hg5 hE
          have HT2 := HT2.grow2 (y := (h2.flatMap Rl.cells ++ h1.flatMap Rl.cells)) hown5 hg5 hE
          have HB := HT2.low
          clear hown5 hg5 hE hlo
          (refine hK.out _ _ (have HDW := HD.later HB; ⟨HDW.t.a.1, HDW.t.b.1⟩) (fun hHeld => ?_); clear hK K; (try simp only [Act.put, List.setIfInBounds_toArray, List.set_cons_zero, List.set_cons_succ]))
          have HD := HD.later HB
          have H10 := H10.below HB
          have HSG : Sl wk6 2 (.slice ga (g2.length + g1.length) gc) (g2 ++ g1).length ((g2 ++ g1).flatMap Rl.cells) := by rw [List.length_append, List.flatMap_append]; exact Sl.of_own HT2.o1
          have HSH : Sl wk6 2 (.slice ha (h2.length + h1.length) hc') (h2 ++ h1).length ((h2 ++ h1).flatMap Rl.cells) := by rw [List.length_append, List.flatMap_append]; exact Sl.of_own HT2.o2
          clear HT2 HB
          have HBS : BlkS wk6 b10 4 := ⟨_, H10, rfl, by simp [isSl]⟩
          have Hc := H10
          obtain ⟨cs, fs, zs⟩ := Hc
          (refine held_call 15 rfl (by kernel_rfl) (fun K hK => ?_); go_simp)
          clear cs fs zs
          have HD := HD.far (o := 1) (v := .slice ga (g2.length + g1.length) gc) HBS lo7 (by omega) l8 l9
          have H10 : Blk (wk6.setCell ⟨b10, 1, none⟩ (.slice ga (g2.length + g1.length) gc)) b10 #[.slice va0 l1.length vc0, .slice ga (g2.length + g1.length) gc, .slice va2 h1.length vc2, .slice va3 q1.length vc3] := by have := H10.put (o := 1) (v := .slice ga (g2.length + g1.length) gc) (by simp); simpa using this
          have HSG := HSG.set (o := 1) (x := .slice ga (g2.length + g1.length) gc) HBS (rl_noSl _)
          have HSH := HSH.set (o := 1) (x := .slice ga (g2.length + g1.length) gc) HBS (rl_noSl _)
          clear HBS
          generalize wk6.setCell ⟨b10, 1, none⟩ (.slice ga (g2.length + g1.length) gc) = ws15 at HD H10 HSG HSH ⊢
          (refine hK.out _ _ (⟨HD.t.a.1, HD.t.b.1⟩) (fun hHeld => ?_); clear hK K; (try simp only [Act.put, List.setIfInBounds_toArray, List.set_cons_zero, List.set_cons_succ]))
          (refine held_yes (v := ?_) 16 rfl (by kernel_rfl) (by kernel_rfl) (by kernel_rfl) (fun _ _ _ h => h) (by rfl) (by assumption) ?_ ?_; rotate_left; focus ((intro w hSw); (try dsimp only at hSw); go_simp; (try with_reducible rfl)); (try simp only [Act.put, List.setIfInBounds_toArray, List.set_cons_zero, List.set_cons_succ]))
          have HBS : BlkS ws15 b10 4 := ⟨_, H10, rfl, by simp [isSl]⟩
          have Hc := H10
          obtain ⟨cs, fs, zs⟩ := Hc
          (refine held_call 17 rfl (by kernel_rfl) (fun K hK => ?_); go_simp)
          clear cs fs zs
          have HD := HD.far (o := 2) (v := .slice ha (h2.length + h1.length) hc') HBS lo7 (by omega) l8 l9
          have H10 : Blk (ws15.setCell ⟨b10, 2, none⟩ (.slice ha (h2.length + h1.length) hc')) b10 #[.slice va0 l1.length vc0, .slice ga (g2.length + g1.length) gc, .slice ha (h2.length + h1.length) hc', .slice va3 q1.length vc3] := by have := H10.put (o := 2) (v := .slice ha (h2.length + h1.length) hc') (by simp); simpa using this
          have HSG := HSG.set (o := 2) (x := .slice ha (h2.length + h1.length) hc') HBS (rl_noSl _)
          have HSH := HSH.set (o := 2) (x := .slice ha (h2.length + h1.length) hc') HBS (rl_noSl _)
          clear HBS
          generalize ws15.setCell ⟨b10, 2, none⟩ (.slice ha (h2.length + h1.length) hc') = ws17 at HD H10 HSG HSH ⊢
          (refine hK.out _ _ (⟨HD.t.a.1, HD.t.b.1⟩) (fun hHeld => ?_); clear hK K; (try simp only [Act.put, List.setIfInBounds_toArray, List.set_cons_zero, List.set_cons_succ]))
          refine wpAnyH_done (by kernel_rfl) ?_ _
          go_wp2_with fail
          go_meet
          exact ⟨ga, gc, ha, hc', Lib.hid HD, Lib.hid H10, Lib.hid HSG, Lib.hid HSH⟩
      · go_simp
        obtain ⟨wk1, hwn⟩ : ∃ V, V = wk.alloc (.cells #[] 50) := ⟨_, rfl⟩
        obtain ⟨bh, hbh⟩ : ∃ b, b = wk.heap.size := ⟨_, rfl⟩
        rw [← hwn, ← hbh]
        have HH : wk1.ownsRow wk.heap.size 50 2 (.slice (some ⟨bh, 0, none⟩) 0 0) 0 [] := by rw [hwn, hbh]; exact World.ownsRow_made wk #[] 0 HB.size (Nat.zero_le _) (by simp)
        have HB : Below wk.heap.size wk wk1 := by rw [hwn]; exact HB.alloc HB.size _
        clear hwn hbh
        (refine hK.out _ _ (have HDW := HD.later HB; ⟨HDW.t.a.1, HDW.t.b.1⟩) (fun hHeld => ?_); clear hK K; (try simp only [Act.put, List.setIfInBounds_toArray, List.set_cons_zero, List.set_cons_succ]))
        (refine held_call 0 rfl (by kernel_rfl) (fun K hK => ?_); go_simp)
        obtain ⟨wk2, hwn⟩ : ∃ V, V = wk1.alloc (.cells #[] 50) := ⟨_, rfl⟩
        obtain ⟨bg, hbg⟩ : ∃ b, b = wk1.heap.size := ⟨_, rfl⟩
        rw [← hwn, ← hbg]
        have HT2 := (RowsTwo.new HB HH).swap
        rw [← hwn, ← hbg] at HT2
        have HB := HT2.low
        clear HH
        clear hwn hbg
        (refine hK.out _ _ (have HDW := HD.later HB; ⟨HDW.t.a.1, HDW.t.b.1⟩) (fun hHeld => ?_); clear hK K; (try simp only [Act.put, List.setIfInBounds_toArray, List.set_cons_zero, List.set_cons_succ]))
        refine held_call 3 rfl (by kernel_rfl) (fun K hK => ?_)
        have hlo := HD.t.low.trans (HB.mono HD.t.low.size)
        refine step_rowE rfl _ _ 23 rfl wk.heap.size 50 infr _ 2 32 Tryz.underlying23 HIR.out hr0 hr1 hr2 (Nat.le_of_ble_eq_true rfl) rfl (Nat.le_of_ble_eq_true rfl) _ 0 [] rfl HT2.o1 _ g2.length _ rfl (HP2.out.rg.below hlo) (rls_one _) (by omega) HB.size ?_
        intro ga gc wk3 hown5 hg5 hE
        rw [Nat.zero_add] at hown5 hE ⊢
        have HT2 := HT2.grow1 (y := (g2.flatMap Rl.cells)) hown5 hg5 hE
        have HB := HT2.low
        clear hown5 hg5 hE hlo
        (refine hK.out _ _ (have HDW := HD.later HB; ⟨HDW.t.a.1, HDW.t.b.1⟩) (fun hHeld => ?_); clear hK K; (try simp only [Act.put, List.setIfInBounds_toArray, List.set_cons_zero, List.set_cons_succ]))
        refine held_call 6 rfl (by kernel_rfl) (fun K hK => ?_)
        have hlo := HD.t.low.trans (HB.mono HD.t.low.size)
        refine step_rowE rfl _ _ 23 rfl wk.heap.size 50 infr _ 2 32 Tryz.underlying23 HIR.out hr0 hr1 hr2 (Nat.le_of_ble_eq_true rfl) rfl (Nat.le_of_ble_eq_true rfl) _ g2.length (g2.flatMap Rl.cells) rfl HT2.o1 _ g1.length _ rfl (HP1.out.rg.below hlo) (rls_one _) (by omega) HB.size ?_
        intro ga gc wk4 hown5 hg5 hE
        have HT2 := HT2.grow1 (y := (g2.flatMap Rl.cells ++ g1.flatMap Rl.cells)) hown5 hg5 hE
        have HB := HT2.low
        clear hown5 hg5 hE hlo
        (refine hK.out _ _ (have HDW := HD.later HB; ⟨HDW.t.a.1, HDW.t.b.1⟩) (fun hHeld => ?_); clear hK K; (try simp only [Act.put, List.setIfInBounds_toArray, List.set_cons_zero, List.set_cons_succ]))
        (refine held_yes (v := ?_) 14 rfl (by kernel_rfl) (by kernel_rfl) (by kernel_rfl) (fun _ _ _ h => h) (by rfl) (by assumption) ?_ ?_; rotate_left; focus ((intro w hSw); (try dsimp only at hSw); go_simp; (try with_reducible rfl)); (try simp only [Act.put, List.setIfInBounds_toArray, List.set_cons_zero, List.set_cons_succ]))
        refine held_call 10 rfl (by kernel_rfl) (fun K hK => ?_)
        have hlo := HD.t.low.trans (HB.mono HD.t.low.size)
        refine step_rowE rfl _ _ 23 rfl wk.heap.size 50 infr _ 2 32 Tryz.underlying23 HIR.out hr0 hr1 hr2 (Nat.le_of_ble_eq_true rfl) rfl (Nat.le_of_ble_eq_true rfl) _ 0 [] rfl HT2.o2 _ h2.length _ rfl (HP2.out.rh.below hlo) (rls_one _) (by omega) HB.size ?_
        intro ha hc' wk5 hown5 hg5 hE
        rw [Nat.zero_add] at hown5 hE ⊢
        have HT2 := HT2.grow2 (y := (h2.flatMap Rl.cells)) hown5 hg5 hE
        have HB := HT2.low
        clear hown5 hg5 hE hlo
        (refine hK.out _ _ (have HDW := HD.later HB; ⟨HDW.t.a.1, HDW.t.b.1⟩) (fun hHeld => ?_); clear hK K; (try simp only [Act.put, List.setIfInBounds_toArray, List.set_cons_zero, List.set_cons_succ]))
        refine held_call 13 rfl (by kernel_rfl) (fun K hK => ?_)
        have hlo := HD.t.low.trans (HB.mono HD.t.low.size)
        refine step_rowE rfl _ _ 23 rfl wk.heap.size 50 infr _ 2 32 Tryz.underlying23 HIR.out hr0 hr1 hr2 (Nat.le_of_ble_eq_true rfl) rfl (Nat.le_of_ble_eq_true rfl) _ h2.length (h2.flatMap Rl.cells) rfl HT2.o2 _ h1.length _ rfl (HP1.out.rh.below hlo) (rls_one _) (by omega) HB.size ?_
        intro ha hc' wk6 hown5 hg5 hE
        have HT2 := HT2.grow2 (y := (h2.flatMap Rl.cells ++ h1.flatMap Rl.cells)) hown5 hg5 hE
        have HB := HT2.low
        clear hown5 hg5 hE hlo
        (refine hK.out _ _ (have HDW := HD.later HB; ⟨HDW.t.a.1, HDW.t.b.1⟩) (fun hHeld => ?_); clear hK K; (try simp only [Act.put, List.setIfInBounds_toArray, List.set_cons_zero, List.set_cons_succ]))
        have HD := HD.later HB
        have H10 := H10.below HB
        have HSG : Sl wk6 2 (.slice ga (g2.length + g1.length) gc) (g2 ++ g1).length ((g2 ++ g1).flatMap Rl.cells) := by rw [List.length_append, List.flatMap_append]; exact Sl.of_own HT2.o1
        have HSH : Sl wk6 2 (.slice ha (h2.length + h1.length) hc') (h2 ++ h1).length ((h2 ++ h1).flatMap Rl.cells) := by rw [List.length_append, List.flatMap_append]; exact Sl.of_own HT2.o2
        clear HT2 HB
        have HBS : BlkS wk6 b10 4 := ⟨_, H10, rfl, by simp [isSl]⟩
        have Hc := H10
        obtain ⟨cs, fs, zs⟩ := Hc
        (refine held_call 15 rfl (by kernel_rfl) (fun K hK => ?_); go_simp)
        clear cs fs zs
        have HD := HD.far (o := 1) (v := .slice ga (g2.length + g1.length) gc) HBS lo7 (by omega) l8 l9
        have H10 : Blk (wk6.setCell ⟨b10, 1, none⟩ (.slice ga (g2.length + g1.length) gc)) b10 #[.slice va0 l1.length vc0, .slice ga (g2.length + g1.length) gc, .slice va2 h1.length vc2, .slice va3 q1.length vc3] := by have := H10.put (o := 1) (v := .slice ga (g2.length + g1.length) gc) (by simp); simpa using this
        have HSG := HSG.set (o := 1) (x := .slice ga (g2.length + g1.length) gc) HBS (rl_noSl _)
        have HSH := HSH.set (o := 1) (x := .slice ga (g2.length + g1.length) gc) HBS (rl_noSl _)
        clear HBS
        generalize wk6.setCell ⟨b10, 1, none⟩ (.slice ga (g2.length + g1.length) gc) = ws15 at HD H10 HSG HSH ⊢
        (refine hK.out _ _ (⟨HD.t.a.1, HD.t.b.1⟩) (fun hHeld => ?_); clear hK K; (try simp only [Act.put, List.setIfInBounds_toArray, List.set_cons_zero, List.set_cons_succ]))
        (refine held_yes (v := ?_) 16 rfl (by kernel_rfl) (by kernel_rfl) (by kernel_rfl) (fun _ _ _ h => h) (by rfl) (by assumption) ?_ ?_; rotate_left; focus ((intro w hSw); (try dsimp only at hSw); go_simp; (try with_reducible rfl)); (try simp only [Act.put, List.setIfInBounds_toArray, List.set_cons_zero, List.set_cons_succ]))
        have HBS : BlkS ws15 b10 4 := ⟨_, H10, rfl, by simp [isSl]⟩
        have Hc := H10
        obtain ⟨cs, fs, zs⟩ := Hc
        (refine held_call 17 rfl (by kernel_rfl) (fun K hK => ?_); go_simp)
        clear cs fs zs
        have HD := HD.far (o := 2) (v := .slice ha (h2.length + h1.length) hc') HBS lo7 (by omega) l8 l9
        have H10 : Blk (ws15.setCell ⟨b10, 2, none⟩ (.slice ha (h2.length + h1.length) hc')) b10 #[.slice va0 l1.length vc0, .slice ga (g2.length + g1.length) gc, .slice ha (h2.length + h1.length) hc', .slice va3 q1.length vc3] := by have := H10.put (o := 2) (v := .slice ha (h2.length + h1.length) hc') (by simp); simpa using this
        have HSG := HSG.set (o := 2) (x := .slice ha (h2.length + h1.length) hc') HBS (rl_noSl _)
        have HSH := HSH.set (o := 2) (x := .slice ha (h2.length + h1.length) hc') HBS (rl_noSl _)
        clear HBS
        generalize ws15.setCell ⟨b10, 2, none⟩ (.slice ha (h2.length + h1.length) hc') = ws17 at HD H10 HSG HSH ⊢
        (refine hK.out _ _ (⟨HD.t.a.1, HD.t.b.1⟩) (fun hHeld => ?_); clear hK K; (try simp only [Act.put, List.setIfInBounds_toArray, List.set_cons_zero, List.set_cons_succ]))
        refine wpAnyH_done (by kernel_rfl) ?_ _
        go_wp2_with fail
        go_meet
        exact ⟨ga, gc, ha, hc', Lib.hid HD, Lib.hid H10, Lib.hid HSG, Lib.hid HSH⟩
    case rest =>
      clear HD H10
      obtain ⟨ga, gc, ha, hc', HD, H10, HSG, HSH⟩ := hcut
      go_upto_region 8 with fail
      go_cut [82] (fun s82 wx => s82 = .bool false ∧ Hid (Bks w #[.slice va0 l1.length vc0, .slice va1 g1.length vc1, .slice va2 h1.length vc2, .slice va3 q1.length vc3] #[.slice ua0 l2.length uc0, .slice ua1 g2.length uc1, .slice ua2 h2.length uc2, .slice ua3 q2.length uc3] d b7 b8 b9 #[.slice xa0 d.more.length xc0, .slice xa1 d.gone.length xc1, .slice xa2 d.grow.length xc2, .slice xa3 d.ungrow.length xc3, .slice xa4 d.shrink.length xc4, .slice xa5 d.unshrink.length xc5] #[.slice ra0 l2.length rc0, .slice ra1 g2.length rc1, .slice ra2 h2.length rc2, .slice ua3 q2.length uc3] #[.slice sa0 l1.length sc0, .slice sa1 g1.length sc1, .slice sa2 h1.length sc2, .slice va3 q1.length vc3] (.slice xa0 d.more.length xc0) (.slice xa1 d.gone.length xc1) (.slice xa2 d.grow.length xc2) (.slice xa3 d.ungrow.length xc3) (.slice xa4 d.shrink.length xc4) (.slice xa5 d.unshrink.length xc5) (.slice ra0 l2.length rc0) (.slice ra1 g2.length rc1) (.slice ra2 h2.length rc2) (.slice sa0 l1.length sc0) (.slice sa1 g1.length sc1) (.slice sa2 h1.length sc2) l1 l2 g1 h1 g2 h2 wx))
      case first =>
        clear SX SY OF2 EC HL HP1 HP2 HC
        obtain ⟨ca, fa, za⟩ := HD.out.t.a
        obtain ⟨cb, fb, zb⟩ := H10.out
        go_wp2_with fail
        refine (TG.out _ _ _ HD.out.t.low HSG.out HSH.out).mono ?_
        rintro e wt ⟨rfl, hb⟩
        have HD := Lib.hid (HD.out.later hb)
        have H10 := Lib.hid (H10.out.below hb)
        have HSG := Lib.hid (HSG.out.below hb)
        have HSH := Lib.hid (HSH.out.below hb)
        clear hb ca fa za cb fb zb TG
        obtain ⟨ca, fa, za⟩ := HD.out.t.a
        obtain ⟨cb, fb, zb⟩ := H10.out
        go_wp2_with fail
        refine (RC1.out _ _ _ HD.out.t.low HSG.out HSH.out).mono ?_
        rintro e wt1 ⟨rfl, hb⟩
        have HD := Lib.hid (HD.out.later hb)
        have H10 := Lib.hid (H10.out.below hb)
        have HSG := Lib.hid (HSG.out.below hb)
        have HSH := Lib.hid (HSH.out.below hb)
        clear hb ca fa za cb fb zb RC1
        cases k1 with
        | false =>
          go_wp2_with fail
          go_meet
          exact ⟨rfl, HD⟩
        | true =>
          have hk2 : k2 = true := RM.out (by first | rfl | trivial)
          subst hk2
          obtain ⟨ca, fa, za⟩ := HD.out.t.a
          go_wp2_with fail
          refine (RC2.out _ HD.out.t.low).mono ?_
          rintro e wt2 ⟨rfl, hb⟩
          have HD := Lib.hid (HD.out.later hb)
          clear hb ca fa za RC2 RM
          go_wp2_with fail
          go_meet
          exact ⟨rfl, HD⟩
      case rest =>
        clear HD H10 HSG HSH TG RC1 RC2 RM
        obtain ⟨rfl, HD⟩ := hcut
        have HD := HD.out
        go_wp2_with fail
        have BK := Lib.hid (fun W (hx : DlAt W (.slice xa0 d.more.length xc0) (.slice xa1 d.gone.length xc1) (.slice xa2 d.grow.length xc2) (.slice xa3 d.ungrow.length xc3) (.slice xa4 d.shrink.length xc4) (.slice xa5 d.unshrink.length xc5) d) => delta_Back (.slice xa0 d.more.length xc0) (.slice xa1 d.gone.length xc1) (.slice xa2 d.grow.length xc2) (.slice xa3 d.ungrow.length xc3) (.slice xa4 d.shrink.length xc4) (.slice xa5 d.unshrink.length xc5) d W hx)
        have BK2 := Lib.hid (fun W (hx : DlAt W (.slice xa1 d.gone.length xc1) (.slice xa0 d.more.length xc0) (.slice xa3 d.ungrow.length xc3) (.slice xa2 d.grow.length xc2) (.slice xa5 d.unshrink.length xc5) (.slice xa4 d.shrink.length xc4) d.back) => delta_Back (.slice xa1 d.gone.length xc1) (.slice xa0 d.more.length xc0) (.slice xa3 d.ungrow.length xc3) (.slice xa2 d.grow.length xc2) (.slice xa5 d.unshrink.length xc5) (.slice xa4 d.shrink.length xc4) d.back W hx)
        have DS := Lib.hid (fun W (hx : DlAt W (.slice xa0 d.more.length xc0) (.slice xa1 d.gone.length xc1) (.slice xa2 d.grow.length xc2) (.slice xa3 d.ungrow.length xc3) (.slice xa4 d.shrink.length xc4) (.slice xa5 d.unshrink.length xc5) d) => d.eqv_self ▸ delta_Same (.slice xa0 d.more.length xc0) (.slice xa1 d.gone.length xc1) (.slice xa2 d.grow.length xc2) (.slice xa3 d.ungrow.length xc3) (.slice xa4 d.shrink.length xc4) (.slice xa5 d.unshrink.length xc5) (.slice xa0 d.more.length xc0) (.slice xa1 d.gone.length xc1) (.slice xa2 d.grow.length xc2) (.slice xa3 d.ungrow.length xc3) (.slice xa4 d.shrink.length xc4) (.slice xa5 d.unshrink.length xc5) d d W hx hx)
        refine wp_region_held_drew (S := (fun W => (∀ o, W.cell? ⟨w.heap.size, o, none⟩ = (#[.slice va0 l1.length vc0, .slice va1 g1.length vc1, .slice va2 h1.length vc2, .slice va3 q1.length vc3] : Array Value)[o]?) ∧ (∀ o, W.cell? ⟨w.heap.size + 1, o, none⟩ = (#[.slice ua0 l2.length uc0, .slice ua1 g2.length uc1, .slice ua2 h2.length uc2, .slice ua3 q2.length uc3] : Array Value)[o]?) ∧ (∀ o, W.cell? ⟨b7, o, none⟩ = (#[.slice xa0 d.more.length xc0, .slice xa1 d.gone.length xc1, .slice xa2 d.grow.length xc2, .slice xa3 d.ungrow.length xc3, .slice xa4 d.shrink.length xc4, .slice xa5 d.unshrink.length xc5] : Array Value)[o]?) ∧ (∀ o, W.cell? ⟨b8, o, none⟩ = (#[.slice ra0 l2.length rc0, .slice ra1 g2.length rc1, .slice ra2 h2.length rc2, .slice ua3 q2.length uc3] : Array Value)[o]?) ∧ (∀ o, W.cell? ⟨b9, o, none⟩ = (#[.slice sa0 l1.length sc0, .slice sa1 g1.length sc1, .slice sa2 h1.length sc2, .slice va3 q1.length vc3] : Array Value)[o]?))) (by kernel_rfl) (by have HD := HD.later (below_drew (Below.refl _ _)); exact (⟨HD.t.a.1, HD.t.b.1, HD.h7.1, HD.h8.1, HD.h9.1⟩)) (fun hHeld => ?_)
        have HD := HD.later (below_drew (Below.refl _ _))
        (refine held_yes (v := ?_) 0 rfl (by kernel_rfl) (by kernel_rfl) (by kernel_rfl) (fun _ _ _ h => h) (by rfl) (by assumption) ?_ ?_; rotate_left; focus ((intro w hSw); (try dsimp only at hSw); go_simp; (try with_reducible rfl)); (try simp only [Act.put, List.setIfInBounds_toArray, List.set_cons_zero, List.set_cons_succ])); (refine held_yes (v := ?_) 1 rfl (by kernel_rfl) (by kernel_rfl) (by kernel_rfl) (fun _ _ _ h => h) (by rfl) (by assumption) ?_ ?_; rotate_left; focus ((intro w hSw); (try dsimp only at hSw); go_simp; (try with_reducible rfl)); (try simp only [Act.put, List.setIfInBounds_toArray, List.set_cons_zero, List.set_cons_succ]))
        (refine held_call 2 rfl (by kernel_rfl) (fun K hK => ?_); go_simp)
        go_at_call 13; refine (SX.out _ _ _ _ HD.t.low HD.r).mono ?_; rintro e wz1 ⟨rfl, hbq⟩; have HD := HD.later hbq; clear hbq
        (refine hK.out _ _ (⟨HD.t.a.1, HD.t.b.1, HD.h7.1, HD.h8.1, HD.h9.1⟩) (fun hHeld => ?_); clear hK K; (try simp only [Act.put, List.setIfInBounds_toArray, List.set_cons_zero, List.set_cons_succ]))
        (refine held_yes (v := ?_) 3 rfl (by kernel_rfl) (by kernel_rfl) (by kernel_rfl) (fun _ _ _ h => h) (by rfl) (by assumption) ?_ ?_; rotate_left; focus ((intro w hSw); (try dsimp only at hSw); go_simp; (try with_reducible rfl)); (try simp only [Act.put, List.setIfInBounds_toArray, List.set_cons_zero, List.set_cons_succ])); (refine held_yes (v := ?_) 4 rfl (by kernel_rfl) (by kernel_rfl) (by kernel_rfl) (fun _ _ _ h => h) (by rfl) (by assumption) ?_ ?_; rotate_left; focus ((intro w hSw); (try dsimp only at hSw); go_simp; (try with_reducible rfl)); (try simp only [Act.put, List.setIfInBounds_toArray, List.set_cons_zero, List.set_cons_succ])); (refine held_yes (v := ?_) 5 rfl (by kernel_rfl) (by kernel_rfl) (by kernel_rfl) (fun _ _ _ h => h) (by rfl) (by assumption) ?_ ?_; rotate_left; focus ((intro w hSw); (try dsimp only at hSw); go_simp; (try with_reducible rfl)); (try simp only [Act.put, List.setIfInBounds_toArray, List.set_cons_zero, List.set_cons_succ]))
        (refine held_call 6 rfl (by kernel_rfl) (fun K hK => ?_); go_simp)
        go_at_call 13; refine (SY.out _ _ _ _ HD.t.low HD.s).mono ?_; rintro e wz2 ⟨rfl, hbq⟩; have HD := HD.later hbq; clear hbq
        (refine hK.out _ _ (⟨HD.t.a.1, HD.t.b.1, HD.h7.1, HD.h8.1, HD.h9.1⟩) (fun hHeld => ?_); clear hK K; (try simp only [Act.put, List.setIfInBounds_toArray, List.set_cons_zero, List.set_cons_succ]))
        (refine held_yes (v := ?_) 7 rfl (by kernel_rfl) (by kernel_rfl) (by kernel_rfl) (fun _ _ _ h => h) (by rfl) (by assumption) ?_ ?_; rotate_left; focus ((intro w hSw); (try dsimp only at hSw); go_simp; (try with_reducible rfl)); (try simp only [Act.put, List.setIfInBounds_toArray, List.set_cons_zero, List.set_cons_succ])); (refine held_yes (v := ?_) 8 rfl (by kernel_rfl) (by kernel_rfl) (by kernel_rfl) (fun _ _ _ h => h) (by rfl) (by assumption) ?_ ?_; rotate_left; focus ((intro w hSw); (try dsimp only at hSw); go_simp; (try with_reducible rfl)); (try simp only [Act.put, List.setIfInBounds_toArray, List.set_cons_zero, List.set_cons_succ])); (refine held_yes (v := ?_) 9 rfl (by kernel_rfl) (by kernel_rfl) (by kernel_rfl) (fun _ _ _ h => h) (by rfl) (by assumption) ?_ ?_; rotate_left; focus ((intro w hSw); (try dsimp only at hSw); go_simp; (try with_reducible rfl)); (try simp only [Act.put, List.setIfInBounds_toArray, List.set_cons_zero, List.set_cons_succ])); (refine held_yes (v := ?_) 10 rfl (by kernel_rfl) (by kernel_rfl) (by kernel_rfl) (fun _ _ _ h => h) (by rfl) (by assumption) ?_ ?_; rotate_left; focus ((intro w hSw); (try dsimp only at hSw); go_simp; (try with_reducible rfl)); (try simp only [Act.put, List.setIfInBounds_toArray, List.set_cons_zero, List.set_cons_succ]))
        (refine held_call 11 rfl (by kernel_rfl) (fun K hK => ?_); go_simp)
        go_at_call 7; refine (OF2.out _ HD.t.low).mono ?_; rintro e wz3 ⟨z, rfl, ⟨z0, z1, z2, z3, z4, z5, rfl, hz⟩, hbq⟩; have HD := HD.later hbq; clear hbq
        obtain ⟨ea0, ec0, rfl⟩ := hz.a0.form
        obtain ⟨ea1, ec1, rfl⟩ := hz.a1.form
        obtain ⟨ea2, ec2, rfl⟩ := hz.a2.form
        obtain ⟨ea3, ec3, rfl⟩ := hz.a3.form
        obtain ⟨ea4, ec4, rfl⟩ := hz.a4.form
        obtain ⟨ea5, ec5, rfl⟩ := hz.a5.form
        (refine hK.out _ _ (⟨HD.t.a.1, HD.t.b.1, HD.h7.1, HD.h8.1, HD.h9.1⟩) (fun hHeld => ?_); clear hK K; (try simp only [Act.put, List.setIfInBounds_toArray, List.set_cons_zero, List.set_cons_succ]))
        (refine held_call 12 rfl (by kernel_rfl) (fun K hK => ?_); go_simp)
        go_at_call 11; refine (EC.out _ _ _ _ _ _ _ hz).mono ?_; rintro e wz4 ⟨rfl, hbq⟩; have HD := HD.later hbq; clear hbq; clear hz
        (refine hK.out _ _ (⟨HD.t.a.1, HD.t.b.1, HD.h7.1, HD.h8.1, HD.h9.1⟩) (fun hHeld => ?_); clear hK K; (try simp only [Act.put, List.setIfInBounds_toArray, List.set_cons_zero, List.set_cons_succ]))
        (refine held_yes (v := ?_) 13 rfl (by kernel_rfl) (by kernel_rfl) (by kernel_rfl) (fun _ _ _ h => h) (by rfl) (by assumption) ?_ ?_; rotate_left; focus ((intro w hSw); (try dsimp only at hSw); go_simp; (try with_reducible rfl)); (try simp only [Act.put, List.setIfInBounds_toArray, List.set_cons_zero, List.set_cons_succ])); (refine held_yes (v := ?_) 14 rfl (by kernel_rfl) (by kernel_rfl) (by kernel_rfl) (fun _ _ _ h => h) (by rfl) (by assumption) ?_ ?_; rotate_left; focus ((intro w hSw); (try dsimp only at hSw); go_simp; (try with_reducible rfl)); (try simp only [Act.put, List.setIfInBounds_toArray, List.set_cons_zero, List.set_cons_succ])); (refine held_yes (v := ?_) 15 rfl (by kernel_rfl) (by kernel_rfl) (by kernel_rfl) (fun _ _ _ h => h) (by rfl) (by assumption) ?_ ?_; rotate_left; focus ((intro w hSw); (try dsimp only at hSw); go_simp; (try with_reducible rfl)); (try simp only [Act.put, List.setIfInBounds_toArray, List.set_cons_zero, List.set_cons_succ])); (refine held_yes (v := ?_) 16 rfl (by kernel_rfl) (by kernel_rfl) (by kernel_rfl) (fun _ _ _ h => h) (by rfl) (by assumption) ?_ ?_; rotate_left; focus ((intro w hSw); (try dsimp only at hSw); go_simp; (try with_reducible rfl)); (try simp only [Act.put, List.setIfInBounds_toArray, List.set_cons_zero, List.set_cons_succ]))
        (refine held_call 17 rfl (by kernel_rfl) (fun K hK => ?_); go_simp)
        go_at_call 10; refine (BK.out _ HD.hx).mono ?_; rintro e wz5 ⟨rfl, hbq⟩; have HD := HD.later hbq; clear hbq
        (refine hK.out _ _ (⟨HD.t.a.1, HD.t.b.1, HD.h7.1, HD.h8.1, HD.h9.1⟩) (fun hHeld => ?_); clear hK K; (try simp only [Act.put, List.setIfInBounds_toArray, List.set_cons_zero, List.set_cons_succ]))
        (refine held_call 18 rfl (by kernel_rfl) (fun K hK => ?_); go_simp)
        go_at_call 10; refine (BK2.out _ HD.hx.back).mono ?_; rintro e wz6 ⟨rfl, hbq⟩; have HD := HD.later hbq; clear hbq
        (refine hK.out _ _ (⟨HD.t.a.1, HD.t.b.1, HD.h7.1, HD.h8.1, HD.h9.1⟩) (fun hHeld => ?_); clear hK K; (try simp only [Act.put, List.setIfInBounds_toArray, List.set_cons_zero, List.set_cons_succ]))
        (refine held_call 19 rfl (by kernel_rfl) (fun K hK => ?_); go_simp)
        go_at_call 19; refine (DS.out _ HD.hx).mono ?_; rintro e wz7 ⟨rfl, hbq⟩; have HD := HD.later hbq; clear hbq
        (refine hK.out _ _ (⟨HD.t.a.1, HD.t.b.1, HD.h7.1, HD.h8.1, HD.h9.1⟩) (fun hHeld => ?_); clear hK K; (try simp only [Act.put, List.setIfInBounds_toArray, List.set_cons_zero, List.set_cons_succ]))
        (refine held_yes (v := ?_) 20 rfl (by kernel_rfl) (by kernel_rfl) (by kernel_rfl) (fun _ _ _ h => h) (by rfl) (by assumption) ?_ ?_; rotate_left; focus ((intro w hSw); (try dsimp only at hSw); go_simp; (try with_reducible rfl)); (try simp only [Act.put, List.setIfInBounds_toArray, List.set_cons_zero, List.set_cons_succ])); (refine held_yes (v := ?_) 21 rfl (by kernel_rfl) (by kernel_rfl) (by kernel_rfl) (fun _ _ _ h => h) (by rfl) (by assumption) ?_ ?_; rotate_left; focus ((intro w hSw); (try dsimp only at hSw); go_simp; (try with_reducible rfl)); (try simp only [Act.put, List.setIfInBounds_toArray, List.set_cons_zero, List.set_cons_succ]))
        (refine held_call 22 rfl (by kernel_rfl) (fun K hK => ?_); go_simp)
        go_at_call 6; refine (HL.out _).mono ?_; rintro e wz8 ⟨rfl, hbq⟩; have HD := HD.later hbq; clear hbq
        (refine hK.out _ _ (⟨HD.t.a.1, HD.t.b.1, HD.h7.1, HD.h8.1, HD.h9.1⟩) (fun hHeld => ?_); clear hK K; (try simp only [Act.put, List.setIfInBounds_toArray, List.set_cons_zero, List.set_cons_succ]))
        (refine held_yes (v := ?_) 23 rfl (by kernel_rfl) (by kernel_rfl) (by kernel_rfl) (fun _ _ _ h => h) (by rfl) (by assumption) ?_ ?_; rotate_left; focus ((intro w hSw); (try dsimp only at hSw); go_simp; (try with_reducible rfl)); (try simp only [Act.put, List.setIfInBounds_toArray, List.set_cons_zero, List.set_cons_succ])); (refine held_yes (v := ?_) 24 rfl (by kernel_rfl) (by kernel_rfl) (by kernel_rfl) (fun _ _ _ h => h) (by rfl) (by assumption) ?_ ?_; rotate_left; focus ((intro w hSw); (try dsimp only at hSw); go_simp; (try with_reducible rfl)); (try simp only [Act.put, List.setIfInBounds_toArray, List.set_cons_zero, List.set_cons_succ]))
        refine wpAnyH_done (by kernel_rfl) ?_ _
        have HLOW := Lib.hid HD.t.low
        clear HD
        go_wp2
        go_ret
        exact ⟨rfl, HLOW.out⟩
end Go.Proofs.YtmpanikeeeoikaaGreat
