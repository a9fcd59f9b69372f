/- How two policies differ: delta.Of and crupperref32.Of (printed by gen_dlof.py). delta.Tightens. The lines of a difference: crupperref32.Lines (printed by gen_lines.py). -/
import Derived.Test.YtomhekohcadijaaGreatDoorPart7
import Derived.Test.YtomhekohcadijaaGreatDoorPart6
import Derived.Test.YtomhekohcadijaaGreatDoorPart5
namespace Go.Proofs.YtomhekohcadijaaGreatDoor
open Go.RowKit Go.Shelf

structure ThreeAt (w : World) (A B C : Array Value) (wx : World) : Prop where
  a : Blk wx w.heap.size A
  b : Blk wx (w.heap.size + 1) B
  c : Blk wx (w.heap.size + 2) C
  low : Below w.heap.size w wx
theorem ThreeAt.later {w wx w' : World} {A B C : Array Value} (h : ThreeAt w A B C wx) (hb : Below wx.heap.size wx w') : ThreeAt w A B C w' := ⟨h.a.below hb, h.b.below hb, h.c.below hb, h.low.trans (hb.mono h.low.size)⟩
theorem ThreeAt.drew {w wx : World} {A B C : Array Value} (h : ThreeAt w A B C wx) : ThreeAt w A B C wx.drew := h.later (below_drew (Below.refl _ _))
theorem ThreeAt.new (w : World) (A B C : Array Value) (t u s : TypeId) : ThreeAt w A B C (((w.alloc (.cells A t)).alloc (.cells B u)).alloc (.cells C s)) :=
  ⟨(TwoAt.new w A B t u).a.alloc _, (TwoAt.new w A B t u).b.alloc _, by have := Blk.new ((w.alloc (.cells A t)).alloc (.cells B u)) C s; simpa using this, (TwoAt.new w A B t u).low.alloc (by simp; omega) _⟩

set_option maxRecDepth 100000 in
set_option maxHeartbeats 16000000 in
theorem delta_Of (v0 v1 v2 v3 u0 u1 u2 u3 : Value) (l1 l2 : List St) (g1 h1 g2 h2 : List Rl) (q1 q2 : List Qv) (w : World) (hp : PolAt w v0 v1 v2 v3 l1 g1 h1 q1) (hq : PolAt w u0 u1 u2 u3 l2 g2 h2 q2)
    (n1 : l1.length ≤ 1000) (n2 : l2.length ≤ 1000) (n3 : g1.length ≤ 1000) (n4 : g2.length ≤ 1000) (n5 : h1.length ≤ 1000) (n6 : h2.length ≤ 1000) :
    Calls Tryz.prog 51 #[pv v0 v1 v2 v3, pv u0 u1 u2 u3] w fun e w' => ∃ v, e = .returned v ∧ DlV w' v (Dl.of l1 g1 h1 l2 g2 h2) ∧ Below w.heap.size w w' := by
  have C0 := Lib.hid (fun W (hb : Below w.heap.size w W) => stMinus u0 v0 l2 l1 W (hq.rs.below hb) (hp.rs.below hb) n2)
  have C1 := Lib.hid (fun W (hb : Below w.heap.size w W) => stMinus v0 u0 l1 l2 W (hp.rs.below hb) (hq.rs.below hb) n1)
  have C2 := Lib.hid (fun W (hb : Below w.heap.size w W) => delta_without u1 v1 g2 g1 W (hq.rg.below hb) (hp.rg.below hb) n4)
  have C3 := Lib.hid (fun W (hb : Below w.heap.size w W) => delta_without v1 u1 g1 g2 W (hp.rg.below hb) (hq.rg.below hb) n3)
  have C4 := Lib.hid (fun W (hb : Below w.heap.size w W) => delta_without u2 v2 h2 h1 W (hq.rh.below hb) (hp.rh.below hb) n6)
  have C5 := Lib.hid (fun W (hb : Below w.heap.size w W) => delta_without v2 u2 h1 h2 W (hp.rh.below hb) (hq.rh.below hb) n5)
  have DE := Lib.hid (show Dl.of l1 g1 h1 l2 g2 h2 = ⟨minusS l2 l1, minusS l1 l2, outR g2 g1, outR g1 g2, outR h2 h1, outR h1 h2⟩ from rfl)
  generalize minusS l2 l1 = d0 at C0 DE
  generalize minusS l1 l2 = d1 at C1 DE
  generalize outR g2 g1 = d2 at C2 DE
  generalize outR g1 g2 = d3 at C3 DE
  generalize outR h2 h1 = d4 at C4 DE
  generalize outR h1 h2 = d5 at C5 DE
  generalize Dl.of l1 g1 h1 l2 g2 h2 = dd at DE ⊢
  obtain ⟨va0, vc0, rfl⟩ := hp.rs.form
  obtain ⟨va1, vc1, rfl⟩ := hp.rg.form
  obtain ⟨va2, vc2, rfl⟩ := hp.rh.form
  obtain ⟨va3, vc3, rfl⟩ := hp.rq.form
  obtain ⟨ua0, uc0, rfl⟩ := hq.rs.form
  obtain ⟨ua1, uc1, rfl⟩ := hq.rg.form
  obtain ⟨ua2, uc2, rfl⟩ := hq.rh.form
  obtain ⟨ua3, uc3, rfl⟩ := hq.rq.form
  have HT := Lib.hid (ThreeAt.new w #[.slice va0 l1.length vc0, .slice va1 g1.length vc1, .slice va2 h1.length vc2, .slice va3 q1.length vc3] #[.slice ua0 l2.length uc0, .slice ua1 g2.length uc1, .slice ua2 h2.length uc2, .slice ua3 q2.length uc3] #[.slice none 0 0, .slice none 0 0, .slice none 0 0, .slice none 0 0, .slice none 0 0, .slice none 0 0] 26 26 32)
  clear hp hq
  go_enter Tryz.func51, Tryz.ntmps51
  go_wp2_with fail
  have HT := HT.out.drew
  refine wp_region_held_drew (S := (fun W => (∀ o, W.cell? ⟨w.heap.size, o, none⟩ = (#[.slice va0 l1.length vc0, .slice va1 g1.length vc1, .slice va2 h1.length vc2, .slice va3 q1.length vc3] : Array Value)[o]?) ∧ (∀ o, W.cell? ⟨w.heap.size + 1, o, none⟩ = (#[.slice ua0 l2.length uc0, .slice ua1 g2.length uc1, .slice ua2 h2.length uc2, .slice ua3 q2.length uc3] : Array Value)[o]?))) (by kernel_rfl) ⟨HT.a.1, HT.b.1⟩ (fun hHeld => ?_)
  (refine hyes 0 ?_); (refine hyes 1 ?_); (refine hyes 2 ?_); (refine hyes 3 ?_); (refine hyes 5 ?_); (refine hyes 6 ?_); (refine hyes 7 ?_); (refine hyes 8 ?_); (refine hyes 10 ?_); (refine hyes 11 ?_); (refine hyes 12 ?_); (refine hyes 13 ?_); (refine hyes 15 ?_); (refine hyes 16 ?_); (refine hyes 17 ?_); (refine hyes 18 ?_); (refine hyes 20 ?_); (refine hyes 21 ?_); (refine hyes 22 ?_); (refine hyes 23 ?_); (refine hyes 25 ?_); (refine hyes 26 ?_); (refine hyes 27 ?_); (refine hyes 28 ?_); (try simp only [Act.put, List.setIfInBounds_toArray, List.set])
  (refine held_call 4 rfl (by kernel_rfl) (fun K hK => ?_); go_simp)
  go_at_call 94; refine (C0.out _ HT.low).mono ?_; rintro e wq0 ⟨x0, rfl, hs, hbq⟩; have HT := HT.later hbq; have HS0 := Lib.hid hs; obtain ⟨xa0, xc0, hx0⟩ := hs.form; subst hx0; clear hs hbq C0
  (refine hK.out _ _ (⟨HT.a.1, HT.b.1⟩) (fun hHeld => ?_); clear hK K; (try simp only [Act.put, List.setIfInBounds_toArray, List.set]))
  (refine held_call 9 rfl (by kernel_rfl) (fun K hK => ?_); go_simp)
  go_at_call 94; refine (C1.out _ HT.low).mono ?_; rintro e wq1 ⟨x1, rfl, hs, hbq⟩; have HT := HT.later hbq; have HS0 := Lib.hid (HS0.out.below hbq); have HS1 := Lib.hid hs; obtain ⟨xa1, xc1, hx1⟩ := hs.form; subst hx1; clear hs hbq C1
  (refine hK.out _ _ (⟨HT.a.1, HT.b.1⟩) (fun hHeld => ?_); clear hK K; (try simp only [Act.put, List.setIfInBounds_toArray, List.set]))
  (refine held_call 14 rfl (by kernel_rfl) (fun K hK => ?_); go_simp)
  go_at_call 104; refine (C2.out _ HT.low).mono ?_; rintro e wq2 ⟨x2, rfl, hs, hbq⟩; have HT := HT.later hbq; have HS0 := Lib.hid (HS0.out.below hbq); have HS1 := Lib.hid (HS1.out.below hbq); have HS2 := Lib.hid hs; obtain ⟨xa2, xc2, hx2⟩ := hs.form; subst hx2; clear hs hbq C2
  (refine hK.out _ _ (⟨HT.a.1, HT.b.1⟩) (fun hHeld => ?_); clear hK K; (try simp only [Act.put, List.setIfInBounds_toArray, List.set]))
  (refine held_call 19 rfl (by kernel_rfl) (fun K hK => ?_); go_simp)
  go_at_call 104; refine (C3.out _ HT.low).mono ?_; rintro e wq3 ⟨x3, rfl, hs, hbq⟩; have HT := HT.later hbq; have HS0 := Lib.hid (HS0.out.below hbq); have HS1 := Lib.hid (HS1.out.below hbq); have HS2 := Lib.hid (HS2.out.below hbq); have HS3 := Lib.hid hs; obtain ⟨xa3, xc3, hx3⟩ := hs.form; subst hx3; clear hs hbq C3
  (refine hK.out _ _ (⟨HT.a.1, HT.b.1⟩) (fun hHeld => ?_); clear hK K; (try simp only [Act.put, List.setIfInBounds_toArray, List.set]))
  (refine held_call 24 rfl (by kernel_rfl) (fun K hK => ?_); go_simp)
  go_at_call 104; refine (C4.out _ HT.low).mono ?_; rintro e wq4 ⟨x4, rfl, hs, hbq⟩; have HT := HT.later hbq; have HS0 := Lib.hid (HS0.out.below hbq); have HS1 := Lib.hid (HS1.out.below hbq); have HS2 := Lib.hid (HS2.out.below hbq); have HS3 := Lib.hid (HS3.out.below hbq); have HS4 := Lib.hid hs; obtain ⟨xa4, xc4, hx4⟩ := hs.form; subst hx4; clear hs hbq C4
  (refine hK.out _ _ (⟨HT.a.1, HT.b.1⟩) (fun hHeld => ?_); clear hK K; (try simp only [Act.put, List.setIfInBounds_toArray, List.set]))
  (refine held_call 29 rfl (by kernel_rfl) (fun K hK => ?_); go_simp)
  go_at_call 104; refine (C5.out _ HT.low).mono ?_; rintro e wq5 ⟨x5, rfl, hs, hbq⟩; have HT := HT.later hbq; have HS0 := Lib.hid (HS0.out.below hbq); have HS1 := Lib.hid (HS1.out.below hbq); have HS2 := Lib.hid (HS2.out.below hbq); have HS3 := Lib.hid (HS3.out.below hbq); have HS4 := Lib.hid (HS4.out.below hbq); have HS5 := Lib.hid hs; obtain ⟨xa5, xc5, hx5⟩ := hs.form; subst hx5; clear hs hbq C5
  (refine hK.out _ _ (⟨HT.a.1, HT.b.1⟩) (fun hHeld => ?_); clear hK K; (try simp only [Act.put, List.setIfInBounds_toArray, List.set]))
  (refine hyes 30 ?_); (try simp only [Act.put, List.setIfInBounds_toArray, List.set])
  have HC : Blk wq5 (w.heap.size + 1 + 1) #[.slice none 0 0, .slice none 0 0, .slice none 0 0, .slice none 0 0, .slice none 0 0, .slice none 0 0] := HT.c
  have HBS : BlkS wq5 (w.heap.size + 1 + 1) 6 := ⟨_, HC, rfl, by simp [isSl]⟩
  obtain ⟨cq3, fq3, zq3⟩ := HT.c
  (refine held_call 31 rfl (by kernel_rfl) (fun K hK => ?_); go_simp)
  clear cq3 fq3 zq3
  generalize hW : ((((((wq5.setCell ⟨w.heap.size + 1 + 1, 0, none⟩ (.slice xa0 d0.length xc0)).setCell ⟨w.heap.size + 1 + 1, 1, none⟩ (.slice xa1 d1.length xc1)).setCell ⟨w.heap.size + 1 + 1, 2, none⟩ (.slice xa2 d2.length xc2)).setCell ⟨w.heap.size + 1 + 1, 3, none⟩ (.slice xa3 d3.length xc3)).setCell ⟨w.heap.size + 1 + 1, 4, none⟩ (.slice xa4 d4.length xc4)).setCell ⟨w.heap.size + 1 + 1, 5, none⟩ (.slice xa5 d5.length xc5)) = W
  have HW : Blk W (w.heap.size + 1 + 1) #[.slice xa0 d0.length xc0, .slice xa1 d1.length xc1, .slice xa2 d2.length xc2, .slice xa3 d3.length xc3, .slice xa4 d4.length xc4, .slice xa5 d5.length xc5] := by rw [← hW]; simpa using ((((((HC.put (o := 0) (v := .slice xa0 d0.length xc0) (by simp)).put (o := 1) (v := .slice xa1 d1.length xc1) (by simp)).put (o := 2) (v := .slice xa2 d2.length xc2) (by simp)).put (o := 3) (v := .slice xa3 d3.length xc3) (by simp)).put (o := 4) (v := .slice xa4 d4.length xc4) (by simp)).put (o := 5) (v := .slice xa5 d5.length xc5) (by simp))
  have HDV : DlV W (dv (.slice xa0 d0.length xc0) (.slice xa1 d1.length xc1) (.slice xa2 d2.length xc2) (.slice xa3 d3.length xc3) (.slice xa4 d4.length xc4) (.slice xa5 d5.length xc5)) dd := by rw [DE.out, ← hW]; exact ⟨_, _, _, _, _, _, rfl, (HS0.out.puts (st_noSl _) [.slice xa0 d0.length xc0, .slice xa1 d1.length xc1, .slice xa2 d2.length xc2, .slice xa3 d3.length xc3, .slice xa4 d4.length xc4, .slice xa5 d5.length xc5] 0 _ HBS (by simp) (by simp [isSl])).a, (HS1.out.puts (st_noSl _) [.slice xa0 d0.length xc0, .slice xa1 d1.length xc1, .slice xa2 d2.length xc2, .slice xa3 d3.length xc3, .slice xa4 d4.length xc4, .slice xa5 d5.length xc5] 0 _ HBS (by simp) (by simp [isSl])).a, (HS2.out.puts (rl_noSl _) [.slice xa0 d0.length xc0, .slice xa1 d1.length xc1, .slice xa2 d2.length xc2, .slice xa3 d3.length xc3, .slice xa4 d4.length xc4, .slice xa5 d5.length xc5] 0 _ HBS (by simp) (by simp [isSl])).a, (HS3.out.puts (rl_noSl _) [.slice xa0 d0.length xc0, .slice xa1 d1.length xc1, .slice xa2 d2.length xc2, .slice xa3 d3.length xc3, .slice xa4 d4.length xc4, .slice xa5 d5.length xc5] 0 _ HBS (by simp) (by simp [isSl])).a, (HS4.out.puts (rl_noSl _) [.slice xa0 d0.length xc0, .slice xa1 d1.length xc1, .slice xa2 d2.length xc2, .slice xa3 d3.length xc3, .slice xa4 d4.length xc4, .slice xa5 d5.length xc5] 0 _ HBS (by simp) (by simp [isSl])).a, (HS5.out.puts (rl_noSl _) [.slice xa0 d0.length xc0, .slice xa1 d1.length xc1, .slice xa2 d2.length xc2, .slice xa3 d3.length xc3, .slice xa4 d4.length xc4, .slice xa5 d5.length xc5] 0 _ HBS (by simp) (by simp [isSl])).a⟩
  have HLOW : Below w.heap.size w W := by rw [← hW]; exact below_puts (by omega) [.slice xa0 d0.length xc0, .slice xa1 d1.length xc1, .slice xa2 d2.length xc2, .slice xa3 d3.length xc3, .slice xa4 d4.length xc4, .slice xa5 d5.length xc5] 0 _ HT.low
  have HA : Blk W w.heap.size #[.slice va0 l1.length vc0, .slice va1 g1.length vc1, .slice va2 h1.length vc2, .slice va3 q1.length vc3] := by rw [← hW]; exact Blk.puts_far (by omega) [.slice xa0 d0.length xc0, .slice xa1 d1.length xc1, .slice xa2 d2.length xc2, .slice xa3 d3.length xc3, .slice xa4 d4.length xc4, .slice xa5 d5.length xc5] 0 _ HT.a
  have HB : Blk W (w.heap.size + 1) #[.slice ua0 l2.length uc0, .slice ua1 g2.length uc1, .slice ua2 h2.length uc2, .slice ua3 q2.length uc3] := by rw [← hW]; exact Blk.puts_far (by omega) [.slice xa0 d0.length xc0, .slice xa1 d1.length xc1, .slice xa2 d2.length xc2, .slice xa3 d3.length xc3, .slice xa4 d4.length xc4, .slice xa5 d5.length xc5] 0 _ HT.b
  have HDV := Lib.hid HDV
  have HLOW := Lib.hid HLOW
  clear hW HBS HC HT HS0 HS1 HS2 HS3 HS4 HS5
  (refine hK.out _ _ (⟨HA.1, HB.1⟩) (fun hHeld => ?_); clear hK K; (try simp only [Act.put, List.setIfInBounds_toArray, List.set]))
  obtain ⟨cw, fw, zw⟩ := HW
  clear HA HB
  refine wpAnyH_done (by kernel_rfl) ?_ _
  go_wp2
  refine bodyPost_ret (v := dv _ _ _ _ _ _) (by simp [results, Tryz.results51, go_sem, cw]) rfl ⟨_, rfl, HDV.out, HLOW.out⟩
set_option maxRecDepth 100000 in
set_option maxHeartbeats 16000000 in
theorem ref32_Of (v0 v1 v2 v3 u0 u1 u2 u3 : Value) (l1 l2 : List St) (g1 h1 g2 h2 : List Rl) (q1 q2 : List Qv) (w : World) (hp : PolAt w v0 v1 v2 v3 l1 g1 h1 q1) (hq : PolAt w u0 u1 u2 u3 l2 g2 h2 q2)
    (n1 : l1.length ≤ 1000) (n2 : l2.length ≤ 1000) (n3 : g1.length ≤ 1000) (n4 : g2.length ≤ 1000) (n5 : h1.length ≤ 1000) (n6 : h2.length ≤ 1000) :
    Calls Tryz.prog 21 #[pv v0 v1 v2 v3, pv u0 u1 u2 u3] w fun e w' => ∃ v, e = .returned v ∧ DlV w' v (Dl.of l1 g1 h1 l2 g2 h2) ∧ Below w.heap.size w w' := by
  have C0 := Lib.hid (fun W (hb : Below w.heap.size w W) => ref10_OfM u0 v0 l2 l1 W (hq.rs.below hb) (hp.rs.below hb) n2)
  have C1 := Lib.hid (fun W (hb : Below w.heap.size w W) => ref10_OfM v0 u0 l1 l2 W (hp.rs.below hb) (hq.rs.below hb) n1)
  have C2 := Lib.hid (fun W (hb : Below w.heap.size w W) => ref32_out u1 v1 g2 g1 W (hq.rg.below hb) (hp.rg.below hb) n4)
  have C3 := Lib.hid (fun W (hb : Below w.heap.size w W) => ref32_out v1 u1 g1 g2 W (hp.rg.below hb) (hq.rg.below hb) n3)
  have C4 := Lib.hid (fun W (hb : Below w.heap.size w W) => ref32_out u2 v2 h2 h1 W (hq.rh.below hb) (hp.rh.below hb) n6)
  have C5 := Lib.hid (fun W (hb : Below w.heap.size w W) => ref32_out v2 u2 h1 h2 W (hp.rh.below hb) (hq.rh.below hb) n5)
  have DE := Lib.hid (show Dl.of l1 g1 h1 l2 g2 h2 = ⟨minusS l2 l1, minusS l1 l2, outR g2 g1, outR g1 g2, outR h2 h1, outR h1 h2⟩ from rfl)
  generalize minusS l2 l1 = d0 at C0 DE
  generalize minusS l1 l2 = d1 at C1 DE
  generalize outR g2 g1 = d2 at C2 DE
  generalize outR g1 g2 = d3 at C3 DE
  generalize outR h2 h1 = d4 at C4 DE
  generalize outR h1 h2 = d5 at C5 DE
  generalize Dl.of l1 g1 h1 l2 g2 h2 = dd at DE ⊢
  obtain ⟨va0, vc0, rfl⟩ := hp.rs.form
  obtain ⟨va1, vc1, rfl⟩ := hp.rg.form
  obtain ⟨va2, vc2, rfl⟩ := hp.rh.form
  obtain ⟨va3, vc3, rfl⟩ := hp.rq.form
  obtain ⟨ua0, uc0, rfl⟩ := hq.rs.form
  obtain ⟨ua1, uc1, rfl⟩ := hq.rg.form
  obtain ⟨ua2, uc2, rfl⟩ := hq.rh.form
  obtain ⟨ua3, uc3, rfl⟩ := hq.rq.form
  have HT := Lib.hid (ThreeAt.new w #[.slice va0 l1.length vc0, .slice va1 g1.length vc1, .slice va2 h1.length vc2, .slice va3 q1.length vc3] #[.slice ua0 l2.length uc0, .slice ua1 g2.length uc1, .slice ua2 h2.length uc2, .slice ua3 q2.length uc3] #[.slice none 0 0, .slice none 0 0, .slice none 0 0, .slice none 0 0, .slice none 0 0, .slice none 0 0] 26 26 35)
  clear hp hq
  go_enter Tryz.func21, Tryz.ntmps21
  go_wp2_with fail
  have HT := HT.out.drew
  refine wp_region_held_drew (S := (fun W => (∀ o, W.cell? ⟨w.heap.size, o, none⟩ = (#[.slice va0 l1.length vc0, .slice va1 g1.length vc1, .slice va2 h1.length vc2, .slice va3 q1.length vc3] : Array Value)[o]?) ∧ (∀ o, W.cell? ⟨w.heap.size + 1, o, none⟩ = (#[.slice ua0 l2.length uc0, .slice ua1 g2.length uc1, .slice ua2 h2.length uc2, .slice ua3 q2.length uc3] : Array Value)[o]?))) (by kernel_rfl) ⟨HT.a.1, HT.b.1⟩ (fun hHeld => ?_)
  (refine hyes 0 ?_); (refine hyes 1 ?_); (refine hyes 2 ?_); (refine hyes 3 ?_); (refine hyes 5 ?_); (refine hyes 6 ?_); (refine hyes 7 ?_); (refine hyes 8 ?_); (refine hyes 10 ?_); (refine hyes 11 ?_); (refine hyes 12 ?_); (refine hyes 13 ?_); (refine hyes 15 ?_); (refine hyes 16 ?_); (refine hyes 17 ?_); (refine hyes 18 ?_); (refine hyes 20 ?_); (refine hyes 21 ?_); (refine hyes 22 ?_); (refine hyes 23 ?_); (refine hyes 25 ?_); (refine hyes 26 ?_); (refine hyes 27 ?_); (refine hyes 28 ?_); (try simp only [Act.put, List.setIfInBounds_toArray, List.set])
  (refine held_call 4 rfl (by kernel_rfl) (fun K hK => ?_); go_simp)
  go_at_call 63; refine (C0.out _ HT.low).mono ?_; rintro e wq0 ⟨x0, rfl, hs, hbq⟩; have HT := HT.later hbq; have HS0 := Lib.hid hs; obtain ⟨xa0, xc0, hx0⟩ := hs.form; subst hx0; clear hs hbq C0
  (refine hK.out _ _ (⟨HT.a.1, HT.b.1⟩) (fun hHeld => ?_); clear hK K; (try simp only [Act.put, List.setIfInBounds_toArray, List.set]))
  (refine held_call 9 rfl (by kernel_rfl) (fun K hK => ?_); go_simp)
  go_at_call 63; refine (C1.out _ HT.low).mono ?_; rintro e wq1 ⟨x1, rfl, hs, hbq⟩; have HT := HT.later hbq; have HS0 := Lib.hid (HS0.out.below hbq); have HS1 := Lib.hid hs; obtain ⟨xa1, xc1, hx1⟩ := hs.form; subst hx1; clear hs hbq C1
  (refine hK.out _ _ (⟨HT.a.1, HT.b.1⟩) (fun hHeld => ?_); clear hK K; (try simp only [Act.put, List.setIfInBounds_toArray, List.set]))
  (refine held_call 14 rfl (by kernel_rfl) (fun K hK => ?_); go_simp)
  go_at_call 64; refine (C2.out _ HT.low).mono ?_; rintro e wq2 ⟨x2, rfl, hs, hbq⟩; have HT := HT.later hbq; have HS0 := Lib.hid (HS0.out.below hbq); have HS1 := Lib.hid (HS1.out.below hbq); have HS2 := Lib.hid hs; obtain ⟨xa2, xc2, hx2⟩ := hs.form; subst hx2; clear hs hbq C2
  (refine hK.out _ _ (⟨HT.a.1, HT.b.1⟩) (fun hHeld => ?_); clear hK K; (try simp only [Act.put, List.setIfInBounds_toArray, List.set]))
  (refine held_call 19 rfl (by kernel_rfl) (fun K hK => ?_); go_simp)
  go_at_call 64; refine (C3.out _ HT.low).mono ?_; rintro e wq3 ⟨x3, rfl, hs, hbq⟩; have HT := HT.later hbq; have HS0 := Lib.hid (HS0.out.below hbq); have HS1 := Lib.hid (HS1.out.below hbq); have HS2 := Lib.hid (HS2.out.below hbq); have HS3 := Lib.hid hs; obtain ⟨xa3, xc3, hx3⟩ := hs.form; subst hx3; clear hs hbq C3
  (refine hK.out _ _ (⟨HT.a.1, HT.b.1⟩) (fun hHeld => ?_); clear hK K; (try simp only [Act.put, List.setIfInBounds_toArray, List.set]))
  (refine held_call 24 rfl (by kernel_rfl) (fun K hK => ?_); go_simp)
  go_at_call 64; refine (C4.out _ HT.low).mono ?_; rintro e wq4 ⟨x4, rfl, hs, hbq⟩; have HT := HT.later hbq; have HS0 := Lib.hid (HS0.out.below hbq); have HS1 := Lib.hid (HS1.out.below hbq); have HS2 := Lib.hid (HS2.out.below hbq); have HS3 := Lib.hid (HS3.out.below hbq); have HS4 := Lib.hid hs; obtain ⟨xa4, xc4, hx4⟩ := hs.form; subst hx4; clear hs hbq C4
  (refine hK.out _ _ (⟨HT.a.1, HT.b.1⟩) (fun hHeld => ?_); clear hK K; (try simp only [Act.put, List.setIfInBounds_toArray, List.set]))
  (refine held_call 29 rfl (by kernel_rfl) (fun K hK => ?_); go_simp)
  go_at_call 64; refine (C5.out _ HT.low).mono ?_; rintro e wq5 ⟨x5, rfl, hs, hbq⟩; have HT := HT.later hbq; have HS0 := Lib.hid (HS0.out.below hbq); have HS1 := Lib.hid (HS1.out.below hbq); have HS2 := Lib.hid (HS2.out.below hbq); have HS3 := Lib.hid (HS3.out.below hbq); have HS4 := Lib.hid (HS4.out.below hbq); have HS5 := Lib.hid hs; obtain ⟨xa5, xc5, hx5⟩ := hs.form; subst hx5; clear hs hbq C5
  (refine hK.out _ _ (⟨HT.a.1, HT.b.1⟩) (fun hHeld => ?_); clear hK K; (try simp only [Act.put, List.setIfInBounds_toArray, List.set]))
  (refine hyes 30 ?_); (try simp only [Act.put, List.setIfInBounds_toArray, List.set])
  have HC : Blk wq5 (w.heap.size + 1 + 1) #[.slice none 0 0, .slice none 0 0, .slice none 0 0, .slice none 0 0, .slice none 0 0, .slice none 0 0] := HT.c
  have HBS : BlkS wq5 (w.heap.size + 1 + 1) 6 := ⟨_, HC, rfl, by simp [isSl]⟩
  obtain ⟨cq3, fq3, zq3⟩ := HT.c
  (refine held_call 31 rfl (by kernel_rfl) (fun K hK => ?_); go_simp)
  clear cq3 fq3 zq3
  generalize hW : ((((((wq5.setCell ⟨w.heap.size + 1 + 1, 0, none⟩ (.slice xa0 d0.length xc0)).setCell ⟨w.heap.size + 1 + 1, 1, none⟩ (.slice xa1 d1.length xc1)).setCell ⟨w.heap.size + 1 + 1, 2, none⟩ (.slice xa2 d2.length xc2)).setCell ⟨w.heap.size + 1 + 1, 3, none⟩ (.slice xa3 d3.length xc3)).setCell ⟨w.heap.size + 1 + 1, 4, none⟩ (.slice xa4 d4.length xc4)).setCell ⟨w.heap.size + 1 + 1, 5, none⟩ (.slice xa5 d5.length xc5)) = W
  have HW : Blk W (w.heap.size + 1 + 1) #[.slice xa0 d0.length xc0, .slice xa1 d1.length xc1, .slice xa2 d2.length xc2, .slice xa3 d3.length xc3, .slice xa4 d4.length xc4, .slice xa5 d5.length xc5] := by rw [← hW]; simpa using ((((((HC.put (o := 0) (v := .slice xa0 d0.length xc0) (by simp)).put (o := 1) (v := .slice xa1 d1.length xc1) (by simp)).put (o := 2) (v := .slice xa2 d2.length xc2) (by simp)).put (o := 3) (v := .slice xa3 d3.length xc3) (by simp)).put (o := 4) (v := .slice xa4 d4.length xc4) (by simp)).put (o := 5) (v := .slice xa5 d5.length xc5) (by simp))
  have HDV : DlV W (dv (.slice xa0 d0.length xc0) (.slice xa1 d1.length xc1) (.slice xa2 d2.length xc2) (.slice xa3 d3.length xc3) (.slice xa4 d4.length xc4) (.slice xa5 d5.length xc5)) dd := by rw [DE.out, ← hW]; exact ⟨_, _, _, _, _, _, rfl, (HS0.out.puts (st_noSl _) [.slice xa0 d0.length xc0, .slice xa1 d1.length xc1, .slice xa2 d2.length xc2, .slice xa3 d3.length xc3, .slice xa4 d4.length xc4, .slice xa5 d5.length xc5] 0 _ HBS (by simp) (by simp [isSl])).a, (HS1.out.puts (st_noSl _) [.slice xa0 d0.length xc0, .slice xa1 d1.length xc1, .slice xa2 d2.length xc2, .slice xa3 d3.length xc3, .slice xa4 d4.length xc4, .slice xa5 d5.length xc5] 0 _ HBS (by simp) (by simp [isSl])).a, (HS2.out.puts (rl_noSl _) [.slice xa0 d0.length xc0, .slice xa1 d1.length xc1, .slice xa2 d2.length xc2, .slice xa3 d3.length xc3, .slice xa4 d4.length xc4, .slice xa5 d5.length xc5] 0 _ HBS (by simp) (by simp [isSl])).a, (HS3.out.puts (rl_noSl _) [.slice xa0 d0.length xc0, .slice xa1 d1.length xc1, .slice xa2 d2.length xc2, .slice xa3 d3.length xc3, .slice xa4 d4.length xc4, .slice xa5 d5.length xc5] 0 _ HBS (by simp) (by simp [isSl])).a, (HS4.out.puts (rl_noSl _) [.slice xa0 d0.length xc0, .slice xa1 d1.length xc1, .slice xa2 d2.length xc2, .slice xa3 d3.length xc3, .slice xa4 d4.length xc4, .slice xa5 d5.length xc5] 0 _ HBS (by simp) (by simp [isSl])).a, (HS5.out.puts (rl_noSl _) [.slice xa0 d0.length xc0, .slice xa1 d1.length xc1, .slice xa2 d2.length xc2, .slice xa3 d3.length xc3, .slice xa4 d4.length xc4, .slice xa5 d5.length xc5] 0 _ HBS (by simp) (by simp [isSl])).a⟩
  have HLOW : Below w.heap.size w W := by rw [← hW]; exact below_puts (by omega) [.slice xa0 d0.length xc0, .slice xa1 d1.length xc1, .slice xa2 d2.length xc2, .slice xa3 d3.length xc3, .slice xa4 d4.length xc4, .slice xa5 d5.length xc5] 0 _ HT.low
  have HA : Blk W w.heap.size #[.slice va0 l1.length vc0, .slice va1 g1.length vc1, .slice va2 h1.length vc2, .slice va3 q1.length vc3] := by rw [← hW]; exact Blk.puts_far (by omega) [.slice xa0 d0.length xc0, .slice xa1 d1.length xc1, .slice xa2 d2.length xc2, .slice xa3 d3.length xc3, .slice xa4 d4.length xc4, .slice xa5 d5.length xc5] 0 _ HT.a
  have HB : Blk W (w.heap.size + 1) #[.slice ua0 l2.length uc0, .slice ua1 g2.length uc1, .slice ua2 h2.length uc2, .slice ua3 q2.length uc3] := by rw [← hW]; exact Blk.puts_far (by omega) [.slice xa0 d0.length xc0, .slice xa1 d1.length xc1, .slice xa2 d2.length xc2, .slice xa3 d3.length xc3, .slice xa4 d4.length xc4, .slice xa5 d5.length xc5] 0 _ HT.b
  have HDV := Lib.hid HDV
  have HLOW := Lib.hid HLOW
  clear hW HBS HC HT HS0 HS1 HS2 HS3 HS4 HS5
  (refine hK.out _ _ (⟨HA.1, HB.1⟩) (fun hHeld => ?_); clear hK K; (try simp only [Act.put, List.setIfInBounds_toArray, List.set]))
  obtain ⟨cw, fw, zw⟩ := HW
  clear HA HB
  refine wpAnyH_done (by kernel_rfl) ?_ _
  go_wp2
  refine bodyPost_ret (v := dv _ _ _ _ _ _) (by simp [results, Tryz.results21, go_sem, cw]) rfl ⟨_, rfl, HDV.out, HLOW.out⟩
end Go.Proofs.YtomhekohcadijaaGreatDoor
namespace Go.Proofs.YtomhekohcadijaaGreatDoor
open Go.RowKit Go.Shelf

theorem Dl.of_le {l1 l2 : List St} {g1 h1 g2 h2 : List Rl} {k m : Nat} (n1 : l1.length ≤ k) (n2 : l2.length ≤ k) (n3 : g1.length ≤ k) (n4 : g2.length ≤ k) (n5 : h1.length ≤ k) (n6 : h2.length ≤ k)
    (t1 : allLe l1 m) (t2 : allLe l2 m) (t3 : ∀ x ∈ g1, x.le m) (t4 : ∀ x ∈ g2, x.le m) (t5 : ∀ x ∈ h1, x.le m) (t6 : ∀ x ∈ h2, x.le m) : (Dl.of l1 g1 h1 l2 g2 h2).le k m where
  n0 := Nat.le_trans (minus_len _ _) n2
  n1 := Nat.le_trans (minus_len _ _) n1
  n2 := Nat.le_trans (out_lenR _ _) n4
  n3 := Nat.le_trans (out_lenR _ _) n3
  n4 := Nat.le_trans (out_lenR _ _) n6
  n5 := Nat.le_trans (out_lenR _ _) n5
  t0 := fun x hx => t2 x ((minus_mem _ _ _).1 hx).1
  t1 := fun x hx => t1 x ((minus_mem _ _ _).1 hx).1
  t2 := fun x hx => t4 x ((out_memR _ _ _).1 hx).1
  t3 := fun x hx => t3 x ((out_memR _ _ _).1 hx).1
  t4 := fun x hx => t6 x ((out_memR _ _ _).1 hx).1
  t5 := fun x hx => t5 x ((out_memR _ _ _).1 hx).1
theorem Dl.le.mono {d : Dl} {k m k' m' : Nat} (h : d.le k m) (hk : k ≤ k') (hm : m ≤ m') : d.le k' m' where
  n0 := Nat.le_trans h.n0 hk
  n1 := Nat.le_trans h.n1 hk
  n2 := Nat.le_trans h.n2 hk
  n3 := Nat.le_trans h.n3 hk
  n4 := Nat.le_trans h.n4 hk
  n5 := Nat.le_trans h.n5 hk
  t0 := fun x hx => (h.t0 x hx).mono hm
  t1 := fun x hx => (h.t1 x hx).mono hm
  t2 := fun x hx => (h.t2 x hx).mono hm
  t3 := fun x hx => (h.t3 x hx).mono hm
  t4 := fun x hx => (h.t4 x hx).mono hm
  t5 := fun x hx => (h.t5 x hx).mono hm
end Go.Proofs.YtomhekohcadijaaGreatDoor
namespace Go.Proofs.YtomhekohcadijaaGreatDoor
open Go.RowKit Go.Shelf

theorem roleT_big (r : Rl) (h : r.le 4294967) : (roleT r).size ≤ 30000000 := Nat.le_trans (roleT_le r h) (by decide)
theorem printS_big (s : St) (h : s.le 4294967) : (printS s).size ≤ 30000000 := by
  obtain ⟨h0, h1, h2, h3, h4⟩ := h
  have r0 := roleT_le _ h0
  have r1 := roleT_le _ h2
  have r2 := roleT_le _ h3
  unfold printS
  have e1 : (⟨#[32, 60, 45, 32]⟩ : ByteArray).size = 4 := rfl
  have e2 : (⟨#[46]⟩ : ByteArray).size = 1 := rfl
  have e3 : (⟨#[32, 38, 32]⟩ : ByteArray).size = 3 := rfl
  have e4 : emp.size = 0 := rfl
  split
  · simp only [ByteArray.size_append]
    split
    · omega
    · split
      · simp only [ByteArray.size_append]; omega
      · split
        · simp only [ByteArray.size_append]; omega
        · omega
  · omega
theorem lnS_more {l : List St} {k : Nat} (mk : ByteArray) (P : List ByteArray) (h : k < l.length) : P ++ lnS mk (l.take (k + 1)) = (P ++ lnS mk (l.take k)) ++ [mk ++ printS l[k]] := by
  unfold lnS
  rw [List.take_succ_eq_append_getElem h, List.map_append, List.append_assoc]; rfl
theorem lnR_more {l : List Rl} {k : Nat} (mk : ByteArray) (P : List ByteArray) (h : k < l.length) : P ++ lnR mk (l.take (k + 1)) = (P ++ lnR mk (l.take k)) ++ [mk ++ roleT l[k]] := by
  unfold lnR
  rw [List.take_succ_eq_append_getElem h, List.map_append, List.append_assoc]; rfl
theorem lnS_len (mk : ByteArray) (P : List ByteArray) (l : List St) (k : Nat) : (P ++ lnS mk (l.take k)).length ≤ P.length + l.length := by
  unfold lnS
  rw [List.length_append, List.length_map, List.length_take]; omega
theorem lnR_len (mk : ByteArray) (P : List ByteArray) (l : List Rl) (k : Nat) : (P ++ lnR mk (l.take k)).length ≤ P.length + l.length := by
  unfold lnR
  rw [List.length_append, List.length_map, List.length_take]; omega

set_option maxRecDepth 100000 in
set_option maxHeartbeats 16000000 in
theorem ref32_Lines (x0 x1 x2 x3 x4 x5 : Value) (d : Dl) (w : World) (hd : DlAt w x0 x1 x2 x3 x4 x5 d) (hk : d.le 300 4294967) :
    Calls Tryz.prog 14 #[dv x0 x1 x2 x3 x4 x5] w fun e w' => ∃ v, e = .returned v ∧ Sl w' 1 v d.lines.length (strs d.lines) ∧ Below w.heap.size w w' := by
  have HD := Lib.hid hd
  have HK := Lib.hid hk
  have n0 := hk.n0
  have n1 := hk.n1
  have n2 := hk.n2
  have n3 := hk.n3
  have n4 := hk.n4
  have n5 := hk.n5
  obtain ⟨da0, dc0, rfl⟩ := hd.a0.form
  obtain ⟨da1, dc1, rfl⟩ := hd.a1.form
  obtain ⟨da2, dc2, rfl⟩ := hd.a2.form
  obtain ⟨da3, dc3, rfl⟩ := hd.a3.form
  obtain ⟨da4, dc4, rfl⟩ := hd.a4.form
  obtain ⟨da5, dc5, rfl⟩ := hd.a5.form
  obtain ⟨wA, hA⟩ : ∃ wA, wA = w.alloc (.cells #[.slice da0 d.more.length dc0, .slice da1 d.gone.length dc1, .slice da2 d.grow.length dc2, .slice da3 d.ungrow.length dc3, .slice da4 d.shrink.length dc4, .slice da5 d.unshrink.length dc5] 35) := ⟨_, rfl⟩
  have HBOX : Hid (Blk wA w.heap.size #[.slice da0 d.more.length dc0, .slice da1 d.gone.length dc1, .slice da2 d.grow.length dc2, .slice da3 d.ungrow.length dc3, .slice da4 d.shrink.length dc4, .slice da5 d.unshrink.length dc5]) := Lib.hid (by rw [hA]; exact Blk.new w _ _)
  have HLOW : Hid (Below w.heap.size w wA) := Lib.hid (by rw [hA]; exact (Below.refl _ _).alloc (Nat.le_refl _) _)
  have hAs : w.heap.size < wA.heap.size := by rw [hA]; simp
  have DE := Lib.hid (show d.lines = lnS mk0 d.gone ++ lnS mk1 d.more ++ lnR mk2 d.ungrow ++ lnR mk3 d.grow ++ lnR mk4 d.unshrink ++ lnR mk5 d.shrink from rfl)
  generalize d.lines = dl at DE ⊢
  clear hd hk
  go_enter Tryz.func14, Tryz.ntmps14
  go_wp2_with fail
  rw [← hA]
  have HB := Lib.hid (Below.refl wA.heap.size wA)
  have HO : Hid (wA.ownsRow wA.heap.size 9 1 (.slice none 0 0) ([] : List ByteArray).length (strs [])) := Lib.hid (World.ownsRow_nil _ _ _ _)
  obtain ⟨p0, hp0⟩ : ∃ p : List ByteArray, p = [] := ⟨_, rfl⟩
  rw [← hp0] at HO
  have HP0 := Lib.hid hp0
  have hl0 : p0.length ≤ 0 := by rw [hp0]; simp
  clear hp0 hA
  go_loopw [3, 19] (fun vo i wr => ∃ (k : Nat) (ss : List ByteArray), k ≤ d.gone.length ∧ i = .int .i64 k ∧ Hid (ss = p0 ++ lnS mk0 (d.gone.take k)) ∧ Hid (Below wA.heap.size wA wr) ∧ Hid (wr.ownsRow wA.heap.size 9 1 vo ss.length (strs ss))) (fun _ i _ => d.gone.length - (intOf i).toNat)
  case atStart => exact ⟨0, p0, by omega, rfl, Lib.hid (by simp [lnS]), HB, HO⟩
  case round =>
    clear HB HO
    obtain ⟨k, ss, hk, rfl, HS, HB, HO⟩ := hrel
    obtain ⟨oo, oc, rfl⟩ := own_form HO.out
    have hss : ss.length ≤ 300 := by rw [HS.out]; have := lnS_len mk0 p0 d.gone k; omega
    by_cases hlt : k < d.gone.length
    · obtain ⟨b1, o1, c1, he1, hc1, hm1, hb1, hx1⟩ := HD.out.a1.pos (by omega)
      simp only [Value.slice.injEq, true_and] at he1
      obtain ⟨rfl, rfl⟩ := he1
      have hlow := HLOW.out.trans (HB.out.mono HLOW.out.size)
      obtain ⟨p0', p1', p2', p3', p4', p5', p6', p7', p8'⟩ := st_cell (w := wr) (fun j u hu => (hlow.cell (p := ⟨b1, o1 + j, none⟩) hb1).trans (hx1 j u hu)) k hlt
      have hbr : b1 < wr.heap.size := Nat.lt_of_lt_of_le hb1 hlow.size
      have hle := HK.out.t1 _ (List.getElem_mem hlt)
      have PR := Lib.hid (fun W => ref3_Print d.gone[k] W hle)
      have htx := printS_big _ hle
      have HN := Lib.hid (lnS_more mk0 p0 hlt)
      generalize printS d.gone[k] = tx at PR htx HN
      have hek : d.gone[k] = ⟨d.gone[k].k, ⟨d.gone[k].h.o, d.gone[k].h.n⟩, d.gone[k].who, ⟨d.gone[k].a.o, d.gone[k].a.n⟩, ⟨d.gone[k].b.o, d.gone[k].b.n⟩, d.gone[k].via⟩ := rfl
      clear hx1 hle hlow
      generalize d.gone[k] = x at *
      obtain ⟨xk, ⟨x1, x2⟩, xw, ⟨x3, x4⟩, ⟨x5, x6⟩, xv⟩ := x
      clear hek
      go_wp2_with fail
      refine (PR.out _).mono ?_
      rintro e w2 ⟨rfl, hb2⟩
      have HB2 := Lib.hid ((HB.out.alloc HB.out.size (.cells #[.int .i64 xk, .string x1, .string x2, .string xw, .string x3, .string x4, .string x5, .string x6, .string xv] 80)).trans (hb2.mono (HB.out.alloc HB.out.size (.cells #[.int .i64 xk, .string x1, .string x2, .string xw, .string x3, .string x4, .string x5, .string x6, .string xv] 80)).size))
      have HO2 := Lib.hid (own_below (own_below HO.out ((Below.refl _ _).alloc (Nat.le_refl _) _)) hb2)
      have hz2 := HB2.out.size
      clear hb2
      have hown := HO2.out
      go_wp2_with (at_builtin; refine halt_ ?_)
      unfold Halt_
      refine app_own Tryz.underlying27 str_info rfl (by decide) (by decide) rfl _ _ rfl wA.heap.size rfl (hown.alloc _) [.string (mk0 ++ tx)] rfl (heap_new1 _ _) rfl (str1 _) ?_ ?_ ?_
      · omega
      · simp; omega
      intro a' cap' w3 hown' hgrow
      obtain ⟨q1, q2⟩ := own_push (x := mk0 ++ tx) HB2.out hown hown' hgrow
      have HO3 := Lib.hid q1
      have HB3 := Lib.hid q2
      clear hown hown' hgrow q1 q2
      go_wp2_with fail
      refine ⟨⟨k + 1, ss ++ [mk0 ++ tx], by omega, by go_num, Lib.hid (by rw [HN.out, HS.out]), HB3, ?_⟩, by simp [intOf]; omega⟩
      rw [List.length_append] at HO3 ⊢
      exact HO3
    · have HP1 := Lib.hid (show ss = p0 ++ lnS mk0 d.gone by have h := HS.out; rwa [List.take_of_length_le (by omega)] at h)
      obtain ⟨ca, fa, za⟩ := HBOX.out.below HB.out
      have hl1 : ss.length ≤ 300 := hss
      generalize ss = p1 at *
      clear HS hss
      go_wp2_with fail
      clear ca fa za hlt hk
      go_loopw [3, 33] (fun vo i wr => ∃ (k : Nat) (ss : List ByteArray), k ≤ d.more.length ∧ i = .int .i64 k ∧ Hid (ss = p1 ++ lnS mk1 (d.more.take k)) ∧ Hid (Below wA.heap.size wA wr) ∧ Hid (wr.ownsRow wA.heap.size 9 1 vo ss.length (strs ss))) (fun _ i _ => d.more.length - (intOf i).toNat)
      case atStart => exact ⟨0, p1, by omega, rfl, Lib.hid (by simp [lnS]), HB, HO⟩
      case round =>
        clear HB HO
        obtain ⟨k, ss, hk, rfl, HS, HB, HO⟩ := hrel
        obtain ⟨oo, oc, rfl⟩ := own_form HO.out
        have hss : ss.length ≤ 600 := by rw [HS.out]; have := lnS_len mk1 p1 d.more k; omega
        by_cases hlt : k < d.more.length
        · obtain ⟨b1, o1, c1, he1, hc1, hm1, hb1, hx1⟩ := HD.out.a0.pos (by omega)
          simp only [Value.slice.injEq, true_and] at he1
          obtain ⟨rfl, rfl⟩ := he1
          have hlow := HLOW.out.trans (HB.out.mono HLOW.out.size)
          obtain ⟨p0', p1', p2', p3', p4', p5', p6', p7', p8'⟩ := st_cell (w := wr) (fun j u hu => (hlow.cell (p := ⟨b1, o1 + j, none⟩) hb1).trans (hx1 j u hu)) k hlt
          have hbr : b1 < wr.heap.size := Nat.lt_of_lt_of_le hb1 hlow.size
          have hle := HK.out.t0 _ (List.getElem_mem hlt)
          have PR := Lib.hid (fun W => ref3_Print d.more[k] W hle)
          have htx := printS_big _ hle
          have HN := Lib.hid (lnS_more mk1 p1 hlt)
          generalize printS d.more[k] = tx at PR htx HN
          have hek : d.more[k] = ⟨d.more[k].k, ⟨d.more[k].h.o, d.more[k].h.n⟩, d.more[k].who, ⟨d.more[k].a.o, d.more[k].a.n⟩, ⟨d.more[k].b.o, d.more[k].b.n⟩, d.more[k].via⟩ := rfl
          clear hx1 hle hlow
          generalize d.more[k] = x at *
          obtain ⟨xk, ⟨x1, x2⟩, xw, ⟨x3, x4⟩, ⟨x5, x6⟩, xv⟩ := x
          clear hek
          go_wp2_with fail
          refine (PR.out _).mono ?_
          rintro e w2 ⟨rfl, hb2⟩
          have HB2 := Lib.hid ((HB.out.alloc HB.out.size (.cells #[.int .i64 xk, .string x1, .string x2, .string xw, .string x3, .string x4, .string x5, .string x6, .string xv] 80)).trans (hb2.mono (HB.out.alloc HB.out.size (.cells #[.int .i64 xk, .string x1, .string x2, .string xw, .string x3, .string x4, .string x5, .string x6, .string xv] 80)).size))
          have HO2 := Lib.hid (own_below (own_below HO.out ((Below.refl _ _).alloc (Nat.le_refl _) _)) hb2)
          have hz2 := HB2.out.size
          clear hb2
          have hown := HO2.out
          go_wp2_with (at_builtin; refine halt_ ?_)
          unfold Halt_
          refine app_own Tryz.underlying27 str_info rfl (by decide) (by decide) rfl _ _ rfl wA.heap.size rfl (hown.alloc _) [.string (mk1 ++ tx)] rfl (heap_new1 _ _) rfl (str1 _) ?_ ?_ ?_
          · omega
          · simp; omega
          intro a' cap' w3 hown' hgrow
          obtain ⟨q1, q2⟩ := own_push (x := mk1 ++ tx) HB2.out hown hown' hgrow
          have HO3 := Lib.hid q1
          have HB3 := Lib.hid q2
          clear hown hown' hgrow q1 q2
          go_wp2_with fail
          refine ⟨⟨k + 1, ss ++ [mk1 ++ tx], by omega, by go_num, Lib.hid (by rw [HN.out, HS.out]), HB3, ?_⟩, by simp [intOf]; omega⟩
          rw [List.length_append] at HO3 ⊢
          exact HO3
        · have HP2 := Lib.hid (show ss = p1 ++ lnS mk1 d.more by have h := HS.out; rwa [List.take_of_length_le (by omega)] at h)
          obtain ⟨ca, fa, za⟩ := HBOX.out.below HB.out
          have hl2 : ss.length ≤ 600 := hss
          generalize ss = p2 at *
          clear HS hss
          go_wp2_with fail
          clear ca fa za hlt hk
          go_loopw [3, 47] (fun vo i wr => ∃ (k : Nat) (ss : List ByteArray), k ≤ d.ungrow.length ∧ i = .int .i64 k ∧ Hid (ss = p2 ++ lnR mk2 (d.ungrow.take k)) ∧ Hid (Below wA.heap.size wA wr) ∧ Hid (wr.ownsRow wA.heap.size 9 1 vo ss.length (strs ss))) (fun _ i _ => d.ungrow.length - (intOf i).toNat)
          case atStart => exact ⟨0, p2, by omega, rfl, Lib.hid (by simp [lnR]), HB, HO⟩
          case round =>
            clear HB HO
            obtain ⟨k, ss, hk, rfl, HS, HB, HO⟩ := hrel
            obtain ⟨oo, oc, rfl⟩ := own_form HO.out
            have hss : ss.length ≤ 900 := by rw [HS.out]; have := lnR_len mk2 p2 d.ungrow k; omega
            by_cases hlt : k < d.ungrow.length
            · obtain ⟨b1, o1, c1, he1, hc1, hm1, hb1, hx1⟩ := HD.out.a3.pos (by omega)
              simp only [Value.slice.injEq, true_and] at he1
              obtain ⟨rfl, rfl⟩ := he1
              have hlow := HLOW.out.trans (HB.out.mono HLOW.out.size)
              obtain ⟨p0', p1'⟩ := rl_cell (w := wr) (fun j u hu => (hlow.cell (p := ⟨b1, o1 + j, none⟩) hb1).trans (hx1 j u hu)) k hlt
              have hbr : b1 < wr.heap.size := Nat.lt_of_lt_of_le hb1 hlow.size
              have hle := HK.out.t3 _ (List.getElem_mem hlt)
              have PR := Lib.hid (fun W => ref3_Role d.ungrow[k] W hle)
              have htx := roleT_big _ hle
              have HN := Lib.hid (lnR_more mk2 p2 hlt)
              generalize roleT d.ungrow[k] = tx at PR htx HN
              clear hx1 hle hlow
              generalize d.ungrow[k] = x at *
              obtain ⟨x1, x2⟩ := x
              go_wp2_with fail
              refine (PR.out _).mono ?_
              rintro e w2 ⟨rfl, hb2⟩
              have HB2 := Lib.hid ((HB.out.alloc HB.out.size (.cells #[.string x1, .string x2] 78)).trans (hb2.mono (HB.out.alloc HB.out.size (.cells #[.string x1, .string x2] 78)).size))
              have HO2 := Lib.hid (own_below (own_below HO.out ((Below.refl _ _).alloc (Nat.le_refl _) _)) hb2)
              have hz2 := HB2.out.size
              clear hb2
              have hown := HO2.out
              go_wp2_with (at_builtin; refine halt_ ?_)
              unfold Halt_
              refine app_own Tryz.underlying27 str_info rfl (by decide) (by decide) rfl _ _ rfl wA.heap.size rfl (hown.alloc _) [.string (mk2 ++ tx)] rfl (heap_new1 _ _) rfl (str1 _) ?_ ?_ ?_
              · omega
              · simp; omega
              intro a' cap' w3 hown' hgrow
              obtain ⟨q1, q2⟩ := own_push (x := mk2 ++ tx) HB2.out hown hown' hgrow
              have HO3 := Lib.hid q1
              have HB3 := Lib.hid q2
              clear hown hown' hgrow q1 q2
              go_wp2_with fail
              refine ⟨⟨k + 1, ss ++ [mk2 ++ tx], by omega, by go_num, Lib.hid (by rw [HN.out, HS.out]), HB3, ?_⟩, by simp [intOf]; omega⟩
              rw [List.length_append] at HO3 ⊢
              exact HO3
            · have HP3 := Lib.hid (show ss = p2 ++ lnR mk2 d.ungrow by have h := HS.out; rwa [List.take_of_length_le (by omega)] at h)
              obtain ⟨ca, fa, za⟩ := HBOX.out.below HB.out
              have hl3 : ss.length ≤ 900 := hss
              generalize ss = p3 at *
              clear HS hss
              go_wp2_with fail
              clear ca fa za hlt hk
              go_loopw [3, 61] (fun vo i wr => ∃ (k : Nat) (ss : List ByteArray), k ≤ d.grow.length ∧ i = .int .i64 k ∧ Hid (ss = p3 ++ lnR mk3 (d.grow.take k)) ∧ Hid (Below wA.heap.size wA wr) ∧ Hid (wr.ownsRow wA.heap.size 9 1 vo ss.length (strs ss))) (fun _ i _ => d.grow.length - (intOf i).toNat)
              case atStart => exact ⟨0, p3, by omega, rfl, Lib.hid (by simp [lnR]), HB, HO⟩
              case round =>
                clear HB HO
                obtain ⟨k, ss, hk, rfl, HS, HB, HO⟩ := hrel
                obtain ⟨oo, oc, rfl⟩ := own_form HO.out
                have hss : ss.length ≤ 1200 := by rw [HS.out]; have := lnR_len mk3 p3 d.grow k; omega
                by_cases hlt : k < d.grow.length
                · obtain ⟨b1, o1, c1, he1, hc1, hm1, hb1, hx1⟩ := HD.out.a2.pos (by omega)
                  simp only [Value.slice.injEq, true_and] at he1
                  obtain ⟨rfl, rfl⟩ := he1
                  have hlow := HLOW.out.trans (HB.out.mono HLOW.out.size)
                  obtain ⟨p0', p1'⟩ := rl_cell (w := wr) (fun j u hu => (hlow.cell (p := ⟨b1, o1 + j, none⟩) hb1).trans (hx1 j u hu)) k hlt
                  have hbr : b1 < wr.heap.size := Nat.lt_of_lt_of_le hb1 hlow.size
                  have hle := HK.out.t2 _ (List.getElem_mem hlt)
                  have PR := Lib.hid (fun W => ref3_Role d.grow[k] W hle)
                  have htx := roleT_big _ hle
                  have HN := Lib.hid (lnR_more mk3 p3 hlt)
                  generalize roleT d.grow[k] = tx at PR htx HN
                  clear hx1 hle hlow
                  generalize d.grow[k] = x at *
                  obtain ⟨x1, x2⟩ := x
                  go_wp2_with fail
                  refine (PR.out _).mono ?_
                  rintro e w2 ⟨rfl, hb2⟩
                  have HB2 := Lib.hid ((HB.out.alloc HB.out.size (.cells #[.string x1, .string x2] 78)).trans (hb2.mono (HB.out.alloc HB.out.size (.cells #[.string x1, .string x2] 78)).size))
                  have HO2 := Lib.hid (own_below (own_below HO.out ((Below.refl _ _).alloc (Nat.le_refl _) _)) hb2)
                  have hz2 := HB2.out.size
                  clear hb2
                  have hown := HO2.out
                  go_wp2_with (at_builtin; refine halt_ ?_)
                  unfold Halt_
                  refine app_own Tryz.underlying27 str_info rfl (by decide) (by decide) rfl _ _ rfl wA.heap.size rfl (hown.alloc _) [.string (mk3 ++ tx)] rfl (heap_new1 _ _) rfl (str1 _) ?_ ?_ ?_
                  · omega
                  · simp; omega
                  intro a' cap' w3 hown' hgrow
                  obtain ⟨q1, q2⟩ := own_push (x := mk3 ++ tx) HB2.out hown hown' hgrow
                  have HO3 := Lib.hid q1
                  have HB3 := Lib.hid q2
                  clear hown hown' hgrow q1 q2
                  go_wp2_with fail
                  refine ⟨⟨k + 1, ss ++ [mk3 ++ tx], by omega, by go_num, Lib.hid (by rw [HN.out, HS.out]), HB3, ?_⟩, by simp [intOf]; omega⟩
                  rw [List.length_append] at HO3 ⊢
                  exact HO3
                · have HP4 := Lib.hid (show ss = p3 ++ lnR mk3 d.grow by have h := HS.out; rwa [List.take_of_length_le (by omega)] at h)
                  obtain ⟨ca, fa, za⟩ := HBOX.out.below HB.out
                  have hl4 : ss.length ≤ 1200 := hss
                  generalize ss = p4 at *
                  clear HS hss
                  go_wp2_with fail
                  clear ca fa za hlt hk
                  go_loopw [3, 75] (fun vo i wr => ∃ (k : Nat) (ss : List ByteArray), k ≤ d.unshrink.length ∧ i = .int .i64 k ∧ Hid (ss = p4 ++ lnR mk4 (d.unshrink.take k)) ∧ Hid (Below wA.heap.size wA wr) ∧ Hid (wr.ownsRow wA.heap.size 9 1 vo ss.length (strs ss))) (fun _ i _ => d.unshrink.length - (intOf i).toNat)
                  case atStart => exact ⟨0, p4, by omega, rfl, Lib.hid (by simp [lnR]), HB, HO⟩
                  case round =>
                    clear HB HO
                    obtain ⟨k, ss, hk, rfl, HS, HB, HO⟩ := hrel
                    obtain ⟨oo, oc, rfl⟩ := own_form HO.out
                    have hss : ss.length ≤ 1500 := by rw [HS.out]; have := lnR_len mk4 p4 d.unshrink k; omega
                    by_cases hlt : k < d.unshrink.length
                    · obtain ⟨b1, o1, c1, he1, hc1, hm1, hb1, hx1⟩ := HD.out.a5.pos (by omega)
                      simp only [Value.slice.injEq, true_and] at he1
                      obtain ⟨rfl, rfl⟩ := he1
                      have hlow := HLOW.out.trans (HB.out.mono HLOW.out.size)
                      obtain ⟨p0', p1'⟩ := rl_cell (w := wr) (fun j u hu => (hlow.cell (p := ⟨b1, o1 + j, none⟩) hb1).trans (hx1 j u hu)) k hlt
                      have hbr : b1 < wr.heap.size := Nat.lt_of_lt_of_le hb1 hlow.size
                      have hle := HK.out.t5 _ (List.getElem_mem hlt)
                      have PR := Lib.hid (fun W => ref3_Role d.unshrink[k] W hle)
                      have htx := roleT_big _ hle
                      have HN := Lib.hid (lnR_more mk4 p4 hlt)
                      generalize roleT d.unshrink[k] = tx at PR htx HN
                      clear hx1 hle hlow
                      generalize d.unshrink[k] = x at *
                      obtain ⟨x1, x2⟩ := x
                      go_wp2_with fail
                      refine (PR.out _).mono ?_
                      rintro e w2 ⟨rfl, hb2⟩
                      have HB2 := Lib.hid ((HB.out.alloc HB.out.size (.cells #[.string x1, .string x2] 78)).trans (hb2.mono (HB.out.alloc HB.out.size (.cells #[.string x1, .string x2] 78)).size))
                      have HO2 := Lib.hid (own_below (own_below HO.out ((Below.refl _ _).alloc (Nat.le_refl _) _)) hb2)
                      have hz2 := HB2.out.size
                      clear hb2
                      have hown := HO2.out
                      go_wp2_with (at_builtin; refine halt_ ?_)
                      unfold Halt_
                      refine app_own Tryz.underlying27 str_info rfl (by decide) (by decide) rfl _ _ rfl wA.heap.size rfl (hown.alloc _) [.string (mk4 ++ tx)] rfl (heap_new1 _ _) rfl (str1 _) ?_ ?_ ?_
                      · omega
                      · simp; omega
                      intro a' cap' w3 hown' hgrow
                      obtain ⟨q1, q2⟩ := own_push (x := mk4 ++ tx) HB2.out hown hown' hgrow
                      have HO3 := Lib.hid q1
                      have HB3 := Lib.hid q2
                      clear hown hown' hgrow q1 q2
                      go_wp2_with fail
                      refine ⟨⟨k + 1, ss ++ [mk4 ++ tx], by omega, by go_num, Lib.hid (by rw [HN.out, HS.out]), HB3, ?_⟩, by simp [intOf]; omega⟩
                      rw [List.length_append] at HO3 ⊢
                      exact HO3
                    · have HP5 := Lib.hid (show ss = p4 ++ lnR mk4 d.unshrink by have h := HS.out; rwa [List.take_of_length_le (by omega)] at h)
                      obtain ⟨ca, fa, za⟩ := HBOX.out.below HB.out
                      have hl5 : ss.length ≤ 1500 := hss
                      generalize ss = p5 at *
                      clear HS hss
                      go_wp2_with fail
                      clear ca fa za hlt hk
                      go_loopw [3, 89] (fun vo i wr => ∃ (k : Nat) (ss : List ByteArray), k ≤ d.shrink.length ∧ i = .int .i64 k ∧ Hid (ss = p5 ++ lnR mk5 (d.shrink.take k)) ∧ Hid (Below wA.heap.size wA wr) ∧ Hid (wr.ownsRow wA.heap.size 9 1 vo ss.length (strs ss))) (fun _ i _ => d.shrink.length - (intOf i).toNat)
                      case atStart => exact ⟨0, p5, by omega, rfl, Lib.hid (by simp [lnR]), HB, HO⟩
                      case round =>
                        clear HB HO
                        obtain ⟨k, ss, hk, rfl, HS, HB, HO⟩ := hrel
                        obtain ⟨oo, oc, rfl⟩ := own_form HO.out
                        have hss : ss.length ≤ 1800 := by rw [HS.out]; have := lnR_len mk5 p5 d.shrink k; omega
                        by_cases hlt : k < d.shrink.length
                        · obtain ⟨b1, o1, c1, he1, hc1, hm1, hb1, hx1⟩ := HD.out.a4.pos (by omega)
                          simp only [Value.slice.injEq, true_and] at he1
                          obtain ⟨rfl, rfl⟩ := he1
                          have hlow := HLOW.out.trans (HB.out.mono HLOW.out.size)
                          obtain ⟨p0', p1'⟩ := rl_cell (w := wr) (fun j u hu => (hlow.cell (p := ⟨b1, o1 + j, none⟩) hb1).trans (hx1 j u hu)) k hlt
                          have hbr : b1 < wr.heap.size := Nat.lt_of_lt_of_le hb1 hlow.size
                          have hle := HK.out.t4 _ (List.getElem_mem hlt)
                          have PR := Lib.hid (fun W => ref3_Role d.shrink[k] W hle)
                          have htx := roleT_big _ hle
                          have HN := Lib.hid (lnR_more mk5 p5 hlt)
                          generalize roleT d.shrink[k] = tx at PR htx HN
                          clear hx1 hle hlow
                          generalize d.shrink[k] = x at *
                          obtain ⟨x1, x2⟩ := x
                          go_wp2_with fail
                          refine (PR.out _).mono ?_
                          rintro e w2 ⟨rfl, hb2⟩
                          have HB2 := Lib.hid ((HB.out.alloc HB.out.size (.cells #[.string x1, .string x2] 78)).trans (hb2.mono (HB.out.alloc HB.out.size (.cells #[.string x1, .string x2] 78)).size))
                          have HO2 := Lib.hid (own_below (own_below HO.out ((Below.refl _ _).alloc (Nat.le_refl _) _)) hb2)
                          have hz2 := HB2.out.size
                          clear hb2
                          have hown := HO2.out
                          go_wp2_with (at_builtin; refine halt_ ?_)
                          unfold Halt_
                          refine app_own Tryz.underlying27 str_info rfl (by decide) (by decide) rfl _ _ rfl wA.heap.size rfl (hown.alloc _) [.string (mk5 ++ tx)] rfl (heap_new1 _ _) rfl (str1 _) ?_ ?_ ?_
                          · omega
                          · simp; omega
                          intro a' cap' w3 hown' hgrow
                          obtain ⟨q1, q2⟩ := own_push (x := mk5 ++ tx) HB2.out hown hown' hgrow
                          have HO3 := Lib.hid q1
                          have HB3 := Lib.hid q2
                          clear hown hown' hgrow q1 q2
                          go_wp2_with fail
                          refine ⟨⟨k + 1, ss ++ [mk5 ++ tx], by omega, by go_num, Lib.hid (by rw [HN.out, HS.out]), HB3, ?_⟩, by simp [intOf]; omega⟩
                          rw [List.length_append] at HO3 ⊢
                          exact HO3
                        · have HP6 := Lib.hid (show ss = p5 ++ lnR mk5 d.shrink by have h := HS.out; rwa [List.take_of_length_le (by omega)] at h)
                          obtain ⟨ca, fa, za⟩ := HBOX.out.below HB.out
                          have hl6 : ss.length ≤ 1800 := hss
                          generalize ss = p6 at *
                          clear HS hss
                          have HS := Lib.hid (Sl.of_own HO.out)
                          have HE := Lib.hid (show p6 = dl by rw [DE.out, HP6.out, HP5.out, HP4.out, HP3.out, HP2.out, HP1.out, HP0.out]; rfl)
                          go_wp2
                          go_ret
                          exact ⟨_, rfl, by rw [← HE.out]; exact HS.out, HLOW.out.trans (HB.out.mono HLOW.out.size)⟩
end Go.Proofs.YtomhekohcadijaaGreatDoor
