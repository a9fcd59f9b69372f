/- How two policies differ: delta.Of and crupperref32.Of (printed by gen_dlof.py). delta.Tightens. -/
import Derived.Test.YtmpanikeeeoikaaGreatPart11
import Derived.Test.YtmpanikeeeoikaaGreatPart12
namespace Go.Proofs.YtmpanikeeeoikaaGreat
open Go.RowKit Go.Shelf

/-- Three blocks of a call's own that stand whole. -/
structure ThreeAt (w : World) (A B C : Array Value) (wx : World) : Prop where
  a : Blk wx w.heap.size A
  b : Blk wx (w.heap.size + 1) B
  c : Blk wx (w.heap.size + 2) C
  low : Below w.heap.size w wx
theorem ThreeAt.later {w wx w' : World} {A B C : Array Value} (h : ThreeAt w A B C wx) (hb : Below wx.heap.size wx w') : ThreeAt w A B C w' := ⟨h.a.below hb, h.b.below hb, h.c.below hb, h.low.trans (hb.mono h.low.size)⟩
theorem ThreeAt.alloc {w wx : World} {A B C : Array Value} (h : ThreeAt w A B C wx) (o : Obj) : ThreeAt w A B C (wx.alloc o) := h.later ((Below.refl _ _).alloc (Nat.le_refl _) o)
theorem ThreeAt.drew {w wx : World} {A B C : Array Value} (h : ThreeAt w A B C wx) : ThreeAt w A B C wx.drew := h.later (below_drew (Below.refl _ _))
theorem ThreeAt.new (w : World) (A B C : Array Value) (t u s : TypeId) : ThreeAt w A B C (((w.alloc (.cells A t)).alloc (.cells B u)).alloc (.cells C s)) :=
  ⟨(TwoAt.new w A B t u).a.alloc _, (TwoAt.new w A B t u).b.alloc _, by have := Blk.new ((w.alloc (.cells A t)).alloc (.cells B u)) C s; simpa using this, (TwoAt.new w A B t u).low.alloc (by simp; omega) _⟩

set_option maxRecDepth 100000 in
set_option maxHeartbeats 16000000 in
theorem delta_Of (v0 v1 v2 v3 u0 u1 u2 u3 : Value) (l1 l2 : List St) (g1 h1 g2 h2 : List Rl) (q1 q2 : List Qv) (w : World) (hp : PolAt w v0 v1 v2 v3 l1 g1 h1 q1) (hq : PolAt w u0 u1 u2 u3 l2 g2 h2 q2)
    (n1 : l1.length ≤ 1000) (n2 : l2.length ≤ 1000) (n3 : g1.length ≤ 1000) (n4 : g2.length ≤ 1000) (n5 : h1.length ≤ 1000) (n6 : h2.length ≤ 1000) :
    Calls Tryz.prog 7 #[pv v0 v1 v2 v3, pv u0 u1 u2 u3] w fun e w' => ∃ v, e = .returned v ∧ DlV w' v (Dl.of l1 g1 h1 l2 g2 h2) ∧ Below w.heap.size w w' := by
  have C0 := Lib.hid (fun W (hb : Below w.heap.size w W) => stMinus u0 v0 l2 l1 W (hq.rs.below hb) (hp.rs.below hb) n2)
  have C1 := Lib.hid (fun W (hb : Below w.heap.size w W) => stMinus v0 u0 l1 l2 W (hp.rs.below hb) (hq.rs.below hb) n1)
  have C2 := Lib.hid (fun W (hb : Below w.heap.size w W) => delta_without u1 v1 g2 g1 W (hq.rg.below hb) (hp.rg.below hb) n4)
  have C3 := Lib.hid (fun W (hb : Below w.heap.size w W) => delta_without v1 u1 g1 g2 W (hp.rg.below hb) (hq.rg.below hb) n3)
  have C4 := Lib.hid (fun W (hb : Below w.heap.size w W) => delta_without u2 v2 h2 h1 W (hq.rh.below hb) (hp.rh.below hb) n6)
  have C5 := Lib.hid (fun W (hb : Below w.heap.size w W) => delta_without v2 u2 h1 h2 W (hp.rh.below hb) (hq.rh.below hb) n5)
  have DE := Lib.hid (show Dl.of l1 g1 h1 l2 g2 h2 = ⟨minusS l2 l1, minusS l1 l2, outR g2 g1, outR g1 g2, outR h2 h1, outR h1 h2⟩ from rfl)
  generalize minusS l2 l1 = d0 at C0 DE
  generalize minusS l1 l2 = d1 at C1 DE
  generalize outR g2 g1 = d2 at C2 DE
  generalize outR g1 g2 = d3 at C3 DE
  generalize outR h2 h1 = d4 at C4 DE
  generalize outR h1 h2 = d5 at C5 DE
  generalize Dl.of l1 g1 h1 l2 g2 h2 = dd at DE ⊢
  obtain ⟨va0, vc0, rfl⟩ := hp.rs.form
  obtain ⟨va1, vc1, rfl⟩ := hp.rg.form
  obtain ⟨va2, vc2, rfl⟩ := hp.rh.form
  obtain ⟨va3, vc3, rfl⟩ := hp.rq.form
  obtain ⟨ua0, uc0, rfl⟩ := hq.rs.form
  obtain ⟨ua1, uc1, rfl⟩ := hq.rg.form
  obtain ⟨ua2, uc2, rfl⟩ := hq.rh.form
  obtain ⟨ua3, uc3, rfl⟩ := hq.rq.form
  have HT := Lib.hid (ThreeAt.new w #[.slice va0 l1.length vc0, .slice va1 g1.length vc1, .slice va2 h1.length vc2, .slice va3 q1.length vc3] #[.slice ua0 l2.length uc0, .slice ua1 g2.length uc1, .slice ua2 h2.length uc2, .slice ua3 q2.length uc3] #[.slice none 0 0, .slice none 0 0, .slice none 0 0, .slice none 0 0, .slice none 0 0, .slice none 0 0] 26 26 30)
  clear hp hq
  go_enter Tryz.func7, Tryz.ntmps7
  go_wp2_with fail
  have HT := HT.out.drew
  refine wp_region_held_drew (S := (fun W => (∀ o, W.cell? ⟨w.heap.size, o, none⟩ = (#[.slice va0 l1.length vc0, .slice va1 g1.length vc1, .slice va2 h1.length vc2, .slice va3 q1.length vc3] : Array Value)[o]?) ∧ (∀ o, W.cell? ⟨w.heap.size + 1, o, none⟩ = (#[.slice ua0 l2.length uc0, .slice ua1 g2.length uc1, .slice ua2 h2.length uc2, .slice ua3 q2.length uc3] : Array Value)[o]?))) (by kernel_rfl) ⟨HT.a.1, HT.b.1⟩ (fun hHeld => ?_)
  (refine held_yes (v := ?_) 0 rfl (by kernel_rfl) (by kernel_rfl) (by kernel_rfl) (fun _ _ _ h => h) (by rfl) (by assumption) ?_ ?_; rotate_left; focus ((intro w hSw); (try dsimp only at hSw); go_simp; (try with_reducible rfl)); (try simp only [Act.put, List.setIfInBounds_toArray, List.set_cons_zero, List.set_cons_succ])); (refine held_yes (v := ?_) 1 rfl (by kernel_rfl) (by kernel_rfl) (by kernel_rfl) (fun _ _ _ h => h) (by rfl) (by assumption) ?_ ?_; rotate_left; focus ((intro w hSw); (try dsimp only at hSw); go_simp; (try with_reducible rfl)); (try simp only [Act.put, List.setIfInBounds_toArray, List.set_cons_zero, List.set_cons_succ])); (refine held_yes (v := ?_) 2 rfl (by kernel_rfl) (by kernel_rfl) (by kernel_rfl) (fun _ _ _ h => h) (by rfl) (by assumption) ?_ ?_; rotate_left; focus ((intro w hSw); (try dsimp only at hSw); go_simp; (try with_reducible rfl)); (try simp only [Act.put, List.setIfInBounds_toArray, List.set_cons_zero, List.set_cons_succ])); (refine held_yes (v := ?_) 3 rfl (by kernel_rfl) (by kernel_rfl) (by kernel_rfl) (fun _ _ _ h => h) (by rfl) (by assumption) ?_ ?_; rotate_left; focus ((intro w hSw); (try dsimp only at hSw); go_simp; (try with_reducible rfl)); (try simp only [Act.put, List.setIfInBounds_toArray, List.set_cons_zero, List.set_cons_succ])); (refine held_yes (v := ?_) 5 rfl (by kernel_rfl) (by kernel_rfl) (by kernel_rfl) (fun _ _ _ h => h) (by rfl) (by assumption) ?_ ?_; rotate_left; focus ((intro w hSw); (try dsimp only at hSw); go_simp; (try with_reducible rfl)); (try simp only [Act.put, List.setIfInBounds_toArray, List.set_cons_zero, List.set_cons_succ])); (refine held_yes (v := ?_) 6 rfl (by kernel_rfl) (by kernel_rfl) (by kernel_rfl) (fun _ _ _ h => h) (by rfl) (by assumption) ?_ ?_; rotate_left; focus ((intro w hSw); (try dsimp only at hSw); go_simp; (try with_reducible rfl)); (try simp only [Act.put, List.setIfInBounds_toArray, List.set_cons_zero, List.set_cons_succ])); (refine held_yes (v := ?_) 7 rfl (by kernel_rfl) (by kernel_rfl) (by kernel_rfl) (fun _ _ _ h => h) (by rfl) (by assumption) ?_ ?_; rotate_left; focus ((intro w hSw); (try dsimp only at hSw); go_simp; (try with_reducible rfl)); (try simp only [Act.put, List.setIfInBounds_toArray, List.set_cons_zero, List.set_cons_succ])); (refine held_yes (v := ?_) 8 rfl (by kernel_rfl) (by kernel_rfl) (by kernel_rfl) (fun _ _ _ h => h) (by rfl) (by assumption) ?_ ?_; rotate_left; focus ((intro w hSw); (try dsimp only at hSw); go_simp; (try with_reducible rfl)); (try simp only [Act.put, List.setIfInBounds_toArray, List.set_cons_zero, List.set_cons_succ])); (refine held_yes (v := ?_) 10 rfl (by kernel_rfl) (by kernel_rfl) (by kernel_rfl) (fun _ _ _ h => h) (by rfl) (by assumption) ?_ ?_; rotate_left; focus ((intro w hSw); (try dsimp only at hSw); go_simp; (try with_reducible rfl)); (try simp only [Act.put, List.setIfInBounds_toArray, List.set_cons_zero, List.set_cons_succ])); (refine held_yes (v := ?_) 11 rfl (by kernel_rfl) (by kernel_rfl) (by kernel_rfl) (fun _ _ _ h => h) (by rfl) (by assumption) ?_ ?_; rotate_left; focus ((intro w hSw); (try dsimp only at hSw); go_simp; (try with_reducible rfl)); (try simp only [Act.put, List.setIfInBounds_toArray, List.set_cons_zero, List.set_cons_succ])); (refine held_yes (v := ?_) 12 rfl (by kernel_rfl) (by kernel_rfl) (by kernel_rfl) (fun _ _ _ h => h) (by rfl) (by assumption) ?_ ?_; rotate_left; focus ((intro w hSw); (try dsimp only at hSw); go_simp; (try with_reducible rfl)); (try simp only [Act.put, List.setIfInBounds_toArray, List.set_cons_zero, List.set_cons_succ])); (refine held_yes (v := ?_) 13 rfl (by kernel_rfl) (by kernel_rfl) (by kernel_rfl) (fun _ _ _ h => h) (by rfl) (by assumption) ?_ ?_; rotate_left; focus ((intro w hSw); (try dsimp only at hSw); go_simp; (try with_reducible rfl)); (try simp only [Act.put, List.setIfInBounds_toArray, List.set_cons_zero, List.set_cons_succ])); (refine held_yes (v := ?_) 15 rfl (by kernel_rfl) (by kernel_rfl) (by kernel_rfl) (fun _ _ _ h => h) (by rfl) (by assumption) ?_ ?_; rotate_left; focus ((intro w hSw); (try dsimp only at hSw); go_simp; (try with_reducible rfl)); (try simp only [Act.put, List.setIfInBounds_toArray, List.set_cons_zero, List.set_cons_succ])); (refine held_yes (v := ?_) 16 rfl (by kernel_rfl) (by kernel_rfl) (by kernel_rfl) (fun _ _ _ h => h) (by rfl) (by assumption) ?_ ?_; rotate_left; focus ((intro w hSw); (try dsimp only at hSw); go_simp; (try with_reducible rfl)); (try simp only [Act.put, List.setIfInBounds_toArray, List.set_cons_zero, List.set_cons_succ])); (refine held_yes (v := ?_) 17 rfl (by kernel_rfl) (by kernel_rfl) (by kernel_rfl) (fun _ _ _ h => h) (by rfl) (by assumption) ?_ ?_; rotate_left; focus ((intro w hSw); (try dsimp only at hSw); go_simp; (try with_reducible rfl)); (try simp only [Act.put, List.setIfInBounds_toArray, List.set_cons_zero, List.set_cons_succ])); (refine held_yes (v := ?_) 18 rfl (by kernel_rfl) (by kernel_rfl) (by kernel_rfl) (fun _ _ _ h => h) (by rfl) (by assumption) ?_ ?_; rotate_left; focus ((intro w hSw); (try dsimp only at hSw); go_simp; (try with_reducible rfl)); (try simp only [Act.put, List.setIfInBounds_toArray, List.set_cons_zero, List.set_cons_succ])); (refine held_yes (v := ?_) 20 rfl (by kernel_rfl) (by kernel_rfl) (by kernel_rfl) (fun _ _ _ h => h) (by rfl) (by assumption) ?_ ?_; rotate_left; focus ((intro w hSw); (try dsimp only at hSw); go_simp; (try with_reducible rfl)); (try simp only [Act.put, List.setIfInBounds_toArray, List.set_cons_zero, List.set_cons_succ])); (refine held_yes (v := ?_) 21 rfl (by kernel_rfl) (by kernel_rfl) (by kernel_rfl) (fun _ _ _ h => h) (by rfl) (by assumption) ?_ ?_; rotate_left; focus ((intro w hSw); (try dsimp only at hSw); go_simp; (try with_reducible rfl)); (try simp only [Act.put, List.setIfInBounds_toArray, List.set_cons_zero, List.set_cons_succ])); (refine held_yes (v := ?_) 22 rfl (by kernel_rfl) (by kernel_rfl) (by kernel_rfl) (fun _ _ _ h => h) (by rfl) (by assumption) ?_ ?_; rotate_left; focus ((intro w hSw); (try dsimp only at hSw); go_simp; (try with_reducible rfl)); (try simp only [Act.put, List.setIfInBounds_toArray, List.set_cons_zero, List.set_cons_succ])); (refine held_yes (v := ?_) 23 rfl (by kernel_rfl) (by kernel_rfl) (by kernel_rfl) (fun _ _ _ h => h) (by rfl) (by assumption) ?_ ?_; rotate_left; focus ((intro w hSw); (try dsimp only at hSw); go_simp; (try with_reducible rfl)); (try simp only [Act.put, List.setIfInBounds_toArray, List.set_cons_zero, List.set_cons_succ])); (refine held_yes (v := ?_) 25 rfl (by kernel_rfl) (by kernel_rfl) (by kernel_rfl) (fun _ _ _ h => h) (by rfl) (by assumption) ?_ ?_; rotate_left; focus ((intro w hSw); (try dsimp only at hSw); go_simp; (try with_reducible rfl)); (try simp only [Act.put, List.setIfInBounds_toArray, List.set_cons_zero, List.set_cons_succ])); (refine held_yes (v := ?_) 26 rfl (by kernel_rfl) (by kernel_rfl) (by kernel_rfl) (fun _ _ _ h => h) (by rfl) (by assumption) ?_ ?_; rotate_left; focus ((intro w hSw); (try dsimp only at hSw); go_simp; (try with_reducible rfl)); (try simp only [Act.put, List.setIfInBounds_toArray, List.set_cons_zero, List.set_cons_succ])); (refine held_yes (v := ?_) 27 rfl (by kernel_rfl) (by kernel_rfl) (by kernel_rfl) (fun _ _ _ h => h) (by rfl) (by assumption) ?_ ?_; rotate_left; focus ((intro w hSw); (try dsimp only at hSw); go_simp; (try with_reducible rfl)); (try simp only [Act.put, List.setIfInBounds_toArray, List.set_cons_zero, List.set_cons_succ])); (refine held_yes (v := ?_) 28 rfl (by kernel_rfl) (by kernel_rfl) (by kernel_rfl) (fun _ _ _ h => h) (by rfl) (by assumption) ?_ ?_; rotate_left; focus ((intro w hSw); (try dsimp only at hSw); go_simp; (try with_reducible rfl)); (try simp only [Act.put, List.setIfInBounds_toArray, List.set_cons_zero, List.set_cons_succ]))
  (refine held_call 4 rfl (by kernel_rfl) (fun K hK => ?_); go_simp)
  go_at_call 25; refine (C0.out _ HT.low).mono ?_; rintro e wq0 ⟨x0, rfl, hs, hbq⟩; have HT := HT.later hbq; have HS0 := Lib.hid hs; obtain ⟨xa0, xc0, hx0⟩ := hs.form; subst hx0; clear hs hbq C0
  (refine hK.out _ _ (⟨HT.a.1, HT.b.1⟩) (fun hHeld => ?_); clear hK K; (try simp only [Act.put, List.setIfInBounds_toArray, List.set_cons_zero, List.set_cons_succ]))
  (refine held_call 9 rfl (by kernel_rfl) (fun K hK => ?_); go_simp)
  go_at_call 25; refine (C1.out _ HT.low).mono ?_; rintro e wq1 ⟨x1, rfl, hs, hbq⟩; have HT := HT.later hbq; have HS0 := Lib.hid (HS0.out.below hbq); have HS1 := Lib.hid hs; obtain ⟨xa1, xc1, hx1⟩ := hs.form; subst hx1; clear hs hbq C1
  (refine hK.out _ _ (⟨HT.a.1, HT.b.1⟩) (fun hHeld => ?_); clear hK K; (try simp only [Act.put, List.setIfInBounds_toArray, List.set_cons_zero, List.set_cons_succ]))
  (refine held_call 14 rfl (by kernel_rfl) (fun K hK => ?_); go_simp)
  go_at_call 26; refine (C2.out _ HT.low).mono ?_; rintro e wq2 ⟨x2, rfl, hs, hbq⟩; have HT := HT.later hbq; have HS0 := Lib.hid (HS0.out.below hbq); have HS1 := Lib.hid (HS1.out.below hbq); have HS2 := Lib.hid hs; obtain ⟨xa2, xc2, hx2⟩ := hs.form; subst hx2; clear hs hbq C2
  (refine hK.out _ _ (⟨HT.a.1, HT.b.1⟩) (fun hHeld => ?_); clear hK K; (try simp only [Act.put, List.setIfInBounds_toArray, List.set_cons_zero, List.set_cons_succ]))
  (refine held_call 19 rfl (by kernel_rfl) (fun K hK => ?_); go_simp)
  go_at_call 26; refine (C3.out _ HT.low).mono ?_; rintro e wq3 ⟨x3, rfl, hs, hbq⟩; have HT := HT.later hbq; have HS0 := Lib.hid (HS0.out.below hbq); have HS1 := Lib.hid (HS1.out.below hbq); have HS2 := Lib.hid (HS2.out.below hbq); have HS3 := Lib.hid hs; obtain ⟨xa3, xc3, hx3⟩ := hs.form; subst hx3; clear hs hbq C3
  (refine hK.out _ _ (⟨HT.a.1, HT.b.1⟩) (fun hHeld => ?_); clear hK K; (try simp only [Act.put, List.setIfInBounds_toArray, List.set_cons_zero, List.set_cons_succ]))
  (refine held_call 24 rfl (by kernel_rfl) (fun K hK => ?_); go_simp)
  go_at_call 26; refine (C4.out _ HT.low).mono ?_; rintro e wq4 ⟨x4, rfl, hs, hbq⟩; have HT := HT.later hbq; have HS0 := Lib.hid (HS0.out.below hbq); have HS1 := Lib.hid (HS1.out.below hbq); have HS2 := Lib.hid (HS2.out.below hbq); have HS3 := Lib.hid (HS3.out.below hbq); have HS4 := Lib.hid hs; obtain ⟨xa4, xc4, hx4⟩ := hs.form; subst hx4; clear hs hbq C4
  (refine hK.out _ _ (⟨HT.a.1, HT.b.1⟩) (fun hHeld => ?_); clear hK K; (try simp only [Act.put, List.setIfInBounds_toArray, List.set_cons_zero, List.set_cons_succ]))
  (refine held_call 29 rfl (by kernel_rfl) (fun K hK => ?_); go_simp)
  go_at_call 26; refine (C5.out _ HT.low).mono ?_; rintro e wq5 ⟨x5, rfl, hs, hbq⟩; have HT := HT.later hbq; have HS0 := Lib.hid (HS0.out.below hbq); have HS1 := Lib.hid (HS1.out.below hbq); have HS2 := Lib.hid (HS2.out.below hbq); have HS3 := Lib.hid (HS3.out.below hbq); have HS4 := Lib.hid (HS4.out.below hbq); have HS5 := Lib.hid hs; obtain ⟨xa5, xc5, hx5⟩ := hs.form; subst hx5; clear hs hbq C5
  (refine hK.out _ _ (⟨HT.a.1, HT.b.1⟩) (fun hHeld => ?_); clear hK K; (try simp only [Act.put, List.setIfInBounds_toArray, List.set_cons_zero, List.set_cons_succ]))
  (refine held_yes (v := ?_) 30 rfl (by kernel_rfl) (by kernel_rfl) (by kernel_rfl) (fun _ _ _ h => h) (by rfl) (by assumption) ?_ ?_; rotate_left; focus ((intro w hSw); (try dsimp only at hSw); go_simp; (try with_reducible rfl)); (try simp only [Act.put, List.setIfInBounds_toArray, List.set_cons_zero, List.set_cons_succ]))
  have HC : Blk wq5 (w.heap.size + 1 + 1) #[.slice none 0 0, .slice none 0 0, .slice none 0 0, .slice none 0 0, .slice none 0 0, .slice none 0 0] := HT.c
  have HBS : BlkS wq5 (w.heap.size + 1 + 1) 6 := ⟨_, HC, rfl, by simp [isSl]⟩
  obtain ⟨cq3, fq3, zq3⟩ := HT.c
  (refine held_call 31 rfl (by kernel_rfl) (fun K hK => ?_); go_simp)
  clear cq3 fq3 zq3
  generalize hW : ((((((wq5.setCell ⟨w.heap.size + 1 + 1, 0, none⟩ (.slice xa0 d0.length xc0)).setCell ⟨w.heap.size + 1 + 1, 1, none⟩ (.slice xa1 d1.length xc1)).setCell ⟨w.heap.size + 1 + 1, 2, none⟩ (.slice xa2 d2.length xc2)).setCell ⟨w.heap.size + 1 + 1, 3, none⟩ (.slice xa3 d3.length xc3)).setCell ⟨w.heap.size + 1 + 1, 4, none⟩ (.slice xa4 d4.length xc4)).setCell ⟨w.heap.size + 1 + 1, 5, none⟩ (.slice xa5 d5.length xc5)) = W
  have HW : Blk W (w.heap.size + 1 + 1) #[.slice xa0 d0.length xc0, .slice xa1 d1.length xc1, .slice xa2 d2.length xc2, .slice xa3 d3.length xc3, .slice xa4 d4.length xc4, .slice xa5 d5.length xc5] := by rw [← hW]; simpa using ((((((HC.put (o := 0) (v := .slice xa0 d0.length xc0) (by simp)).put (o := 1) (v := .slice xa1 d1.length xc1) (by simp)).put (o := 2) (v := .slice xa2 d2.length xc2) (by simp)).put (o := 3) (v := .slice xa3 d3.length xc3) (by simp)).put (o := 4) (v := .slice xa4 d4.length xc4) (by simp)).put (o := 5) (v := .slice xa5 d5.length xc5) (by simp))
  have HDV : DlV W (dv (.slice xa0 d0.length xc0) (.slice xa1 d1.length xc1) (.slice xa2 d2.length xc2) (.slice xa3 d3.length xc3) (.slice xa4 d4.length xc4) (.slice xa5 d5.length xc5)) dd := by rw [DE.out, ← hW]; exact ⟨_, _, _, _, _, _, rfl, (HS0.out.puts (st_noSl _) [.slice xa0 d0.length xc0, .slice xa1 d1.length xc1, .slice xa2 d2.length xc2, .slice xa3 d3.length xc3, .slice xa4 d4.length xc4, .slice xa5 d5.length xc5] 0 _ HBS (by simp) (by simp [isSl])).a, (HS1.out.puts (st_noSl _) [.slice xa0 d0.length xc0, .slice xa1 d1.length xc1, .slice xa2 d2.length xc2, .slice xa3 d3.length xc3, .slice xa4 d4.length xc4, .slice xa5 d5.length xc5] 0 _ HBS (by simp) (by simp [isSl])).a, (HS2.out.puts (rl_noSl _) [.slice xa0 d0.length xc0, .slice xa1 d1.length xc1, .slice xa2 d2.length xc2, .slice xa3 d3.length xc3, .slice xa4 d4.length xc4, .slice xa5 d5.length xc5] 0 _ HBS (by simp) (by simp [isSl])).a, (HS3.out.puts (rl_noSl _) [.slice xa0 d0.length xc0, .slice xa1 d1.length xc1, .slice xa2 d2.length xc2, .slice xa3 d3.length xc3, .slice xa4 d4.length xc4, .slice xa5 d5.length xc5] 0 _ HBS (by simp) (by simp [isSl])).a, (HS4.out.puts (rl_noSl _) [.slice xa0 d0.length xc0, .slice xa1 d1.length xc1, .slice xa2 d2.length xc2, .slice xa3 d3.length xc3, .slice xa4 d4.length xc4, .slice xa5 d5.length xc5] 0 _ HBS (by simp) (by simp [isSl])).a, (HS5.out.puts (rl_noSl _) [.slice xa0 d0.length xc0, .slice xa1 d1.length xc1, .slice xa2 d2.length xc2, .slice xa3 d3.length xc3, .slice xa4 d4.length xc4, .slice xa5 d5.length xc5] 0 _ HBS (by simp) (by simp [isSl])).a⟩
  have HLOW : Below w.heap.size w W := by rw [← hW]; exact below_puts (by omega) [.slice xa0 d0.length xc0, .slice xa1 d1.length xc1, .slice xa2 d2.length xc2, .slice xa3 d3.length xc3, .slice xa4 d4.length xc4, .slice xa5 d5.length xc5] 0 _ HT.low
  have HA : Blk W w.heap.size #[.slice va0 l1.length vc0, .slice va1 g1.length vc1, .slice va2 h1.length vc2, .slice va3 q1.length vc3] := by rw [← hW]; exact Blk.puts_far (by omega) [.slice xa0 d0.length xc0, .slice xa1 d1.length xc1, .slice xa2 d2.length xc2, .slice xa3 d3.length xc3, .slice xa4 d4.length xc4, .slice xa5 d5.length xc5] 0 _ HT.a
  have HB : Blk W (w.heap.size + 1) #[.slice ua0 l2.length uc0, .slice ua1 g2.length uc1, .slice ua2 h2.length uc2, .slice ua3 q2.length uc3] := by rw [← hW]; exact Blk.puts_far (by omega) [.slice xa0 d0.length xc0, .slice xa1 d1.length xc1, .slice xa2 d2.length xc2, .slice xa3 d3.length xc3, .slice xa4 d4.length xc4, .slice xa5 d5.length xc5] 0 _ HT.b
  have HDV := Lib.hid HDV
  have HLOW := Lib.hid HLOW
  clear hW HBS HC HT HS0 HS1 HS2 HS3 HS4 HS5
  (refine hK.out _ _ (⟨HA.1, HB.1⟩) (fun hHeld => ?_); clear hK K; (try simp only [Act.put, List.setIfInBounds_toArray, List.set_cons_zero, List.set_cons_succ]))
  obtain ⟨cw, fw, zw⟩ := HW
  clear HA HB
  refine wpAnyH_done (by kernel_rfl) ?_ _
  go_wp2
  refine bodyPost_ret (v := dv _ _ _ _ _ _) (by simp [results, Tryz.results7, go_sem, cw]) rfl ⟨_, rfl, HDV.out, HLOW.out⟩
set_option maxRecDepth 100000 in
set_option maxHeartbeats 16000000 in
theorem ref32_Of (v0 v1 v2 v3 u0 u1 u2 u3 : Value) (l1 l2 : List St) (g1 h1 g2 h2 : List Rl) (q1 q2 : List Qv) (w : World) (hp : PolAt w v0 v1 v2 v3 l1 g1 h1 q1) (hq : PolAt w u0 u1 u2 u3 l2 g2 h2 q2)
    (n1 : l1.length ≤ 1000) (n2 : l2.length ≤ 1000) (n3 : g1.length ≤ 1000) (n4 : g2.length ≤ 1000) (n5 : h1.length ≤ 1000) (n6 : h2.length ≤ 1000) :
    Calls Tryz.prog 8 #[pv v0 v1 v2 v3, pv u0 u1 u2 u3] w fun e w' => ∃ v, e = .returned v ∧ DlV w' v (Dl.of l1 g1 h1 l2 g2 h2) ∧ Below w.heap.size w w' := by
  have C0 := Lib.hid (fun W (hb : Below w.heap.size w W) => ref10_OfM u0 v0 l2 l1 W (hq.rs.below hb) (hp.rs.below hb) n2)
  have C1 := Lib.hid (fun W (hb : Below w.heap.size w W) => ref10_OfM v0 u0 l1 l2 W (hp.rs.below hb) (hq.rs.below hb) n1)
  have C2 := Lib.hid (fun W (hb : Below w.heap.size w W) => ref32_out u1 v1 g2 g1 W (hq.rg.below hb) (hp.rg.below hb) n4)
  have C3 := Lib.hid (fun W (hb : Below w.heap.size w W) => ref32_out v1 u1 g1 g2 W (hp.rg.below hb) (hq.rg.below hb) n3)
  have C4 := Lib.hid (fun W (hb : Below w.heap.size w W) => ref32_out u2 v2 h2 h1 W (hq.rh.below hb) (hp.rh.below hb) n6)
  have C5 := Lib.hid (fun W (hb : Below w.heap.size w W) => ref32_out v2 u2 h1 h2 W (hp.rh.below hb) (hq.rh.below hb) n5)
  have DE := Lib.hid (show Dl.of l1 g1 h1 l2 g2 h2 = ⟨minusS l2 l1, minusS l1 l2, outR g2 g1, outR g1 g2, outR h2 h1, outR h1 h2⟩ from rfl)
  generalize minusS l2 l1 = d0 at C0 DE
  generalize minusS l1 l2 = d1 at C1 DE
  generalize outR g2 g1 = d2 at C2 DE
  generalize outR g1 g2 = d3 at C3 DE
  generalize outR h2 h1 = d4 at C4 DE
  generalize outR h1 h2 = d5 at C5 DE
  generalize Dl.of l1 g1 h1 l2 g2 h2 = dd at DE ⊢
  obtain ⟨va0, vc0, rfl⟩ := hp.rs.form
  obtain ⟨va1, vc1, rfl⟩ := hp.rg.form
  obtain ⟨va2, vc2, rfl⟩ := hp.rh.form
  obtain ⟨va3, vc3, rfl⟩ := hp.rq.form
  obtain ⟨ua0, uc0, rfl⟩ := hq.rs.form
  obtain ⟨ua1, uc1, rfl⟩ := hq.rg.form
  obtain ⟨ua2, uc2, rfl⟩ := hq.rh.form
  obtain ⟨ua3, uc3, rfl⟩ := hq.rq.form
  have HT := Lib.hid (ThreeAt.new w #[.slice va0 l1.length vc0, .slice va1 g1.length vc1, .slice va2 h1.length vc2, .slice va3 q1.length vc3] #[.slice ua0 l2.length uc0, .slice ua1 g2.length uc1, .slice ua2 h2.length uc2, .slice ua3 q2.length uc3] #[.slice none 0 0, .slice none 0 0, .slice none 0 0, .slice none 0 0, .slice none 0 0, .slice none 0 0] 26 26 32)
  clear hp hq
  go_enter Tryz.func8, Tryz.ntmps8
  go_wp2_with fail
  have HT := HT.out.drew
  refine wp_region_held_drew (S := (fun W => (∀ o, W.cell? ⟨w.heap.size, o, none⟩ = (#[.slice va0 l1.length vc0, .slice va1 g1.length vc1, .slice va2 h1.length vc2, .slice va3 q1.length vc3] : Array Value)[o]?) ∧ (∀ o, W.cell? ⟨w.heap.size + 1, o, none⟩ = (#[.slice ua0 l2.length uc0, .slice ua1 g2.length uc1, .slice ua2 h2.length uc2, .slice ua3 q2.length uc3] : Array Value)[o]?))) (by kernel_rfl) ⟨HT.a.1, HT.b.1⟩ (fun hHeld => ?_)
  (refine held_yes (v := ?_) 0 rfl (by kernel_rfl) (by kernel_rfl) (by kernel_rfl) (fun _ _ _ h => h) (by rfl) (by assumption) ?_ ?_; rotate_left; focus ((intro w hSw); (try dsimp only at hSw); go_simp; (try with_reducible rfl)); (try simp only [Act.put, List.setIfInBounds_toArray, List.set_cons_zero, List.set_cons_succ])); (refine held_yes (v := ?_) 1 rfl (by kernel_rfl) (by kernel_rfl) (by kernel_rfl) (fun _ _ _ h => h) (by rfl) (by assumption) ?_ ?_; rotate_left; focus ((intro w hSw); (try dsimp only at hSw); go_simp; (try with_reducible rfl)); (try simp only [Act.put, List.setIfInBounds_toArray, List.set_cons_zero, List.set_cons_succ])); (refine held_yes (v := ?_) 2 rfl (by kernel_rfl) (by kernel_rfl) (by kernel_rfl) (fun _ _ _ h => h) (by rfl) (by assumption) ?_ ?_; rotate_left; focus ((intro w hSw); (try dsimp only at hSw); go_simp; (try with_reducible rfl)); (try simp only [Act.put, List.setIfInBounds_toArray, List.set_cons_zero, List.set_cons_succ])); (refine held_yes (v := ?_) 3 rfl (by kernel_rfl) (by kernel_rfl) (by kernel_rfl) (fun _ _ _ h => h) (by rfl) (by assumption) ?_ ?_; rotate_left; focus ((intro w hSw); (try dsimp only at hSw); go_simp; (try with_reducible rfl)); (try simp only [Act.put, List.setIfInBounds_toArray, List.set_cons_zero, List.set_cons_succ])); (refine held_yes (v := ?_) 5 rfl (by kernel_rfl) (by kernel_rfl) (by kernel_rfl) (fun _ _ _ h => h) (by rfl) (by assumption) ?_ ?_; rotate_left; focus ((intro w hSw); (try dsimp only at hSw); go_simp; (try with_reducible rfl)); (try simp only [Act.put, List.setIfInBounds_toArray, List.set_cons_zero, List.set_cons_succ])); (refine held_yes (v := ?_) 6 rfl (by kernel_rfl) (by kernel_rfl) (by kernel_rfl) (fun _ _ _ h => h) (by rfl) (by assumption) ?_ ?_; rotate_left; focus ((intro w hSw); (try dsimp only at hSw); go_simp; (try with_reducible rfl)); (try simp only [Act.put, List.setIfInBounds_toArray, List.set_cons_zero, List.set_cons_succ])); (refine held_yes (v := ?_) 7 rfl (by kernel_rfl) (by kernel_rfl) (by kernel_rfl) (fun _ _ _ h => h) (by rfl) (by assumption) ?_ ?_; rotate_left; focus ((intro w hSw); (try dsimp only at hSw); go_simp; (try with_reducible rfl)); (try simp only [Act.put, List.setIfInBounds_toArray, List.set_cons_zero, List.set_cons_succ])); (refine held_yes (v := ?_) 8 rfl (by kernel_rfl) (by kernel_rfl) (by kernel_rfl) (fun _ _ _ h => h) (by rfl) (by assumption) ?_ ?_; rotate_left; focus ((intro w hSw); (try dsimp only at hSw); go_simp; (try with_reducible rfl)); (try simp only [Act.put, List.setIfInBounds_toArray, List.set_cons_zero, List.set_cons_succ])); (refine held_yes (v := ?_) 10 rfl (by kernel_rfl) (by kernel_rfl) (by kernel_rfl) (fun _ _ _ h => h) (by rfl) (by assumption) ?_ ?_; rotate_left; focus ((intro w hSw); (try dsimp only at hSw); go_simp; (try with_reducible rfl)); (try simp only [Act.put, List.setIfInBounds_toArray, List.set_cons_zero, List.set_cons_succ])); (refine held_yes (v := ?_) 11 rfl (by kernel_rfl) (by kernel_rfl) (by kernel_rfl) (fun _ _ _ h => h) (by rfl) (by assumption) ?_ ?_; rotate_left; focus ((intro w hSw); (try dsimp only at hSw); go_simp; (try with_reducible rfl)); (try simp only [Act.put, List.setIfInBounds_toArray, List.set_cons_zero, List.set_cons_succ])); (refine held_yes (v := ?_) 12 rfl (by kernel_rfl) (by kernel_rfl) (by kernel_rfl) (fun _ _ _ h => h) (by rfl) (by assumption) ?_ ?_; rotate_left; focus ((intro w hSw); (try dsimp only at hSw); go_simp; (try with_reducible rfl)); (try simp only [Act.put, List.setIfInBounds_toArray, List.set_cons_zero, List.set_cons_succ])); (refine held_yes (v := ?_) 13 rfl (by kernel_rfl) (by kernel_rfl) (by kernel_rfl) (fun _ _ _ h => h) (by rfl) (by assumption) ?_ ?_; rotate_left; focus ((intro w hSw); (try dsimp only at hSw); go_simp; (try with_reducible rfl)); (try simp only [Act.put, List.setIfInBounds_toArray, List.set_cons_zero, List.set_cons_succ])); (refine held_yes (v := ?_) 15 rfl (by kernel_rfl) (by kernel_rfl) (by kernel_rfl) (fun _ _ _ h => h) (by rfl) (by assumption) ?_ ?_; rotate_left; focus ((intro w hSw); (try dsimp only at hSw); go_simp; (try with_reducible rfl)); (try simp only [Act.put, List.setIfInBounds_toArray, List.set_cons_zero, List.set_cons_succ])); (refine held_yes (v := ?_) 16 rfl (by kernel_rfl) (by kernel_rfl) (by kernel_rfl) (fun _ _ _ h => h) (by rfl) (by assumption) ?_ ?_; rotate_left; focus ((intro w hSw); (try dsimp only at hSw); go_simp; (try with_reducible rfl)); (try simp only [Act.put, List.setIfInBounds_toArray, List.set_cons_zero, List.set_cons_succ])); (refine held_yes (v := ?_) 17 rfl (by kernel_rfl) (by kernel_rfl) (by kernel_rfl) (fun _ _ _ h => h) (by rfl) (by assumption) ?_ ?_; rotate_left; focus ((intro w hSw); (try dsimp only at hSw); go_simp; (try with_reducible rfl)); (try simp only [Act.put, List.setIfInBounds_toArray, List.set_cons_zero, List.set_cons_succ])); (refine held_yes (v := ?_) 18 rfl (by kernel_rfl) (by kernel_rfl) (by kernel_rfl) (fun _ _ _ h => h) (by rfl) (by assumption) ?_ ?_; rotate_left; focus ((intro w hSw); (try dsimp only at hSw); go_simp; (try with_reducible rfl)); (try simp only [Act.put, List.setIfInBounds_toArray, List.set_cons_zero, List.set_cons_succ])); (refine held_yes (v := ?_) 20 rfl (by kernel_rfl) (by kernel_rfl) (by kernel_rfl) (fun _ _ _ h => h) (by rfl) (by assumption) ?_ ?_; rotate_left; focus ((intro w hSw); (try dsimp only at hSw); go_simp; (try with_reducible rfl)); (try simp only [Act.put, List.setIfInBounds_toArray, List.set_cons_zero, List.set_cons_succ])); (refine held_yes (v := ?_) 21 rfl (by kernel_rfl) (by kernel_rfl) (by kernel_rfl) (fun _ _ _ h => h) (by rfl) (by assumption) ?_ ?_; rotate_left; focus ((intro w hSw); (try dsimp only at hSw); go_simp; (try with_reducible rfl)); (try simp only [Act.put, List.setIfInBounds_toArray, List.set_cons_zero, List.set_cons_succ])); (refine held_yes (v := ?_) 22 rfl (by kernel_rfl) (by kernel_rfl) (by kernel_rfl) (fun _ _ _ h => h) (by rfl) (by assumption) ?_ ?_; rotate_left; focus ((intro w hSw); (try dsimp only at hSw); go_simp; (try with_reducible rfl)); (try simp only [Act.put, List.setIfInBounds_toArray, List.set_cons_zero, List.set_cons_succ])); (refine held_yes (v := ?_) 23 rfl (by kernel_rfl) (by kernel_rfl) (by kernel_rfl) (fun _ _ _ h => h) (by rfl) (by assumption) ?_ ?_; rotate_left; focus ((intro w hSw); (try dsimp only at hSw); go_simp; (try with_reducible rfl)); (try simp only [Act.put, List.setIfInBounds_toArray, List.set_cons_zero, List.set_cons_succ])); (refine held_yes (v := ?_) 25 rfl (by kernel_rfl) (by kernel_rfl) (by kernel_rfl) (fun _ _ _ h => h) (by rfl) (by assumption) ?_ ?_; rotate_left; focus ((intro w hSw); (try dsimp only at hSw); go_simp; (try with_reducible rfl)); (try simp only [Act.put, List.setIfInBounds_toArray, List.set_cons_zero, List.set_cons_succ])); (refine held_yes (v := ?_) 26 rfl (by kernel_rfl) (by kernel_rfl) (by kernel_rfl) (fun _ _ _ h => h) (by rfl) (by assumption) ?_ ?_; rotate_left; focus ((intro w hSw); (try dsimp only at hSw); go_simp; (try with_reducible rfl)); (try simp only [Act.put, List.setIfInBounds_toArray, List.set_cons_zero, List.set_cons_succ])); (refine held_yes (v := ?_) 27 rfl (by kernel_rfl) (by kernel_rfl) (by kernel_rfl) (fun _ _ _ h => h) (by rfl) (by assumption) ?_ ?_; rotate_left; focus ((intro w hSw); (try dsimp only at hSw); go_simp; (try with_reducible rfl)); (try simp only [Act.put, List.setIfInBounds_toArray, List.set_cons_zero, List.set_cons_succ])); (refine held_yes (v := ?_) 28 rfl (by kernel_rfl) (by kernel_rfl) (by kernel_rfl) (fun _ _ _ h => h) (by rfl) (by assumption) ?_ ?_; rotate_left; focus ((intro w hSw); (try dsimp only at hSw); go_simp; (try with_reducible rfl)); (try simp only [Act.put, List.setIfInBounds_toArray, List.set_cons_zero, List.set_cons_succ]))
  (refine held_call 4 rfl (by kernel_rfl) (fun K hK => ?_); go_simp)
  go_at_call 27; refine (C0.out _ HT.low).mono ?_; rintro e wq0 ⟨x0, rfl, hs, hbq⟩; have HT := HT.later hbq; have HS0 := Lib.hid hs; obtain ⟨xa0, xc0, hx0⟩ := hs.form; subst hx0; clear hs hbq C0
  (refine hK.out _ _ (⟨HT.a.1, HT.b.1⟩) (fun hHeld => ?_); clear hK K; (try simp only [Act.put, List.setIfInBounds_toArray, List.set_cons_zero, List.set_cons_succ]))
  (refine held_call 9 rfl (by kernel_rfl) (fun K hK => ?_); go_simp)
  go_at_call 27; refine (C1.out _ HT.low).mono ?_; rintro e wq1 ⟨x1, rfl, hs, hbq⟩; have HT := HT.later hbq; have HS0 := Lib.hid (HS0.out.below hbq); have HS1 := Lib.hid hs; obtain ⟨xa1, xc1, hx1⟩ := hs.form; subst hx1; clear hs hbq C1
  (refine hK.out _ _ (⟨HT.a.1, HT.b.1⟩) (fun hHeld => ?_); clear hK K; (try simp only [Act.put, List.setIfInBounds_toArray, List.set_cons_zero, List.set_cons_succ]))
  (refine held_call 14 rfl (by kernel_rfl) (fun K hK => ?_); go_simp)
  go_at_call 28; refine (C2.out _ HT.low).mono ?_; rintro e wq2 ⟨x2, rfl, hs, hbq⟩; have HT := HT.later hbq; have HS0 := Lib.hid (HS0.out.below hbq); have HS1 := Lib.hid (HS1.out.below hbq); have HS2 := Lib.hid hs; obtain ⟨xa2, xc2, hx2⟩ := hs.form; subst hx2; clear hs hbq C2
  (refine hK.out _ _ (⟨HT.a.1, HT.b.1⟩) (fun hHeld => ?_); clear hK K; (try simp only [Act.put, List.setIfInBounds_toArray, List.set_cons_zero, List.set_cons_succ]))
  (refine held_call 19 rfl (by kernel_rfl) (fun K hK => ?_); go_simp)
  go_at_call 28; refine (C3.out _ HT.low).mono ?_; rintro e wq3 ⟨x3, rfl, hs, hbq⟩; have HT := HT.later hbq; have HS0 := Lib.hid (HS0.out.below hbq); have HS1 := Lib.hid (HS1.out.below hbq); have HS2 := Lib.hid (HS2.out.below hbq); have HS3 := Lib.hid hs; obtain ⟨xa3, xc3, hx3⟩ := hs.form; subst hx3; clear hs hbq C3
  (refine hK.out _ _ (⟨HT.a.1, HT.b.1⟩) (fun hHeld => ?_); clear hK K; (try simp only [Act.put, List.setIfInBounds_toArray, List.set_cons_zero, List.set_cons_succ]))
  (refine held_call 24 rfl (by kernel_rfl) (fun K hK => ?_); go_simp)
  go_at_call 28; refine (C4.out _ HT.low).mono ?_; rintro e wq4 ⟨x4, rfl, hs, hbq⟩; have HT := HT.later hbq; have HS0 := Lib.hid (HS0.out.below hbq); have HS1 := Lib.hid (HS1.out.below hbq); have HS2 := Lib.hid (HS2.out.below hbq); have HS3 := Lib.hid (HS3.out.below hbq); have HS4 := Lib.hid hs; obtain ⟨xa4, xc4, hx4⟩ := hs.form; subst hx4; clear hs hbq C4
  (refine hK.out _ _ (⟨HT.a.1, HT.b.1⟩) (fun hHeld => ?_); clear hK K; (try simp only [Act.put, List.setIfInBounds_toArray, List.set_cons_zero, List.set_cons_succ]))
  (refine held_call 29 rfl (by kernel_rfl) (fun K hK => ?_); go_simp)
  go_at_call 28; refine (C5.out _ HT.low).mono ?_; rintro e wq5 ⟨x5, rfl, hs, hbq⟩; have HT := HT.later hbq; have HS0 := Lib.hid (HS0.out.below hbq); have HS1 := Lib.hid (HS1.out.below hbq); have HS2 := Lib.hid (HS2.out.below hbq); have HS3 := Lib.hid (HS3.out.below hbq); have HS4 := Lib.hid (HS4.out.below hbq); have HS5 := Lib.hid hs; obtain ⟨xa5, xc5, hx5⟩ := hs.form; subst hx5; clear hs hbq C5
  (refine hK.out _ _ (⟨HT.a.1, HT.b.1⟩) (fun hHeld => ?_); clear hK K; (try simp only [Act.put, List.setIfInBounds_toArray, List.set_cons_zero, List.set_cons_succ]))
  (refine held_yes (v := ?_) 30 rfl (by kernel_rfl) (by kernel_rfl) (by kernel_rfl) (fun _ _ _ h => h) (by rfl) (by assumption) ?_ ?_; rotate_left; focus ((intro w hSw); (try dsimp only at hSw); go_simp; (try with_reducible rfl)); (try simp only [Act.put, List.setIfInBounds_toArray, List.set_cons_zero, List.set_cons_succ]))
  have HC : Blk wq5 (w.heap.size + 1 + 1) #[.slice none 0 0, .slice none 0 0, .slice none 0 0, .slice none 0 0, .slice none 0 0, .slice none 0 0] := HT.c
  have HBS : BlkS wq5 (w.heap.size + 1 + 1) 6 := ⟨_, HC, rfl, by simp [isSl]⟩
  obtain ⟨cq3, fq3, zq3⟩ := HT.c
  (refine held_call 31 rfl (by kernel_rfl) (fun K hK => ?_); go_simp)
  clear cq3 fq3 zq3
  generalize hW : ((((((wq5.setCell ⟨w.heap.size + 1 + 1, 0, none⟩ (.slice xa0 d0.length xc0)).setCell ⟨w.heap.size + 1 + 1, 1, none⟩ (.slice xa1 d1.length xc1)).setCell ⟨w.heap.size + 1 + 1, 2, none⟩ (.slice xa2 d2.length xc2)).setCell ⟨w.heap.size + 1 + 1, 3, none⟩ (.slice xa3 d3.length xc3)).setCell ⟨w.heap.size + 1 + 1, 4, none⟩ (.slice xa4 d4.length xc4)).setCell ⟨w.heap.size + 1 + 1, 5, none⟩ (.slice xa5 d5.length xc5)) = W
  have HW : Blk W (w.heap.size + 1 + 1) #[.slice xa0 d0.length xc0, .slice xa1 d1.length xc1, .slice xa2 d2.length xc2, .slice xa3 d3.length xc3, .slice xa4 d4.length xc4, .slice xa5 d5.length xc5] := by rw [← hW]; simpa using ((((((HC.put (o := 0) (v := .slice xa0 d0.length xc0) (by simp)).put (o := 1) (v := .slice xa1 d1.length xc1) (by simp)).put (o := 2) (v := .slice xa2 d2.length xc2) (by simp)).put (o := 3) (v := .slice xa3 d3.length xc3) (by simp)).put (o := 4) (v := .slice xa4 d4.length xc4) (by simp)).put (o := 5) (v := .slice xa5 d5.length xc5) (by simp))
  have HDV : DlV W (dv (.slice xa0 d0.length xc0) (.slice xa1 d1.length xc1) (.slice xa2 d2.length xc2) (.slice xa3 d3.length xc3) (.slice xa4 d4.length xc4) (.slice xa5 d5.length xc5)) dd := by rw [DE.out, ← hW]; exact ⟨_, _, _, _, _, _, rfl, (HS0.out.puts (st_noSl _) [.slice xa0 d0.length xc0, .slice xa1 d1.length xc1, .slice xa2 d2.length xc2, .slice xa3 d3.length xc3, .slice xa4 d4.length xc4, .slice xa5 d5.length xc5] 0 _ HBS (by simp) (by simp [isSl])).a, (HS1.out.puts (st_noSl _) [.slice xa0 d0.length xc0, .slice xa1 d1.length xc1, .slice xa2 d2.length xc2, .slice xa3 d3.length xc3, .slice xa4 d4.length xc4, .slice xa5 d5.length xc5] 0 _ HBS (by simp) (by simp [isSl])).a, (HS2.out.puts (rl_noSl _) [.slice xa0 d0.length xc0, .slice xa1 d1.length xc1, .slice xa2 d2.length xc2, .slice xa3 d3.length xc3, .slice xa4 d4.length xc4, .slice xa5 d5.length xc5] 0 _ HBS (by simp) (by simp [isSl])).a, (HS3.out.puts (rl_noSl _) [.slice xa0 d0.length xc0, .slice xa1 d1.length xc1, .slice xa2 d2.length xc2, .slice xa3 d3.length xc3, .slice xa4 d4.length xc4, .slice xa5 d5.length xc5] 0 _ HBS (by simp) (by simp [isSl])).a, (HS4.out.puts (rl_noSl _) [.slice xa0 d0.length xc0, .slice xa1 d1.length xc1, .slice xa2 d2.length xc2, .slice xa3 d3.length xc3, .slice xa4 d4.length xc4, .slice xa5 d5.length xc5] 0 _ HBS (by simp) (by simp [isSl])).a, (HS5.out.puts (rl_noSl _) [.slice xa0 d0.length xc0, .slice xa1 d1.length xc1, .slice xa2 d2.length xc2, .slice xa3 d3.length xc3, .slice xa4 d4.length xc4, .slice xa5 d5.length xc5] 0 _ HBS (by simp) (by simp [isSl])).a⟩
  have HLOW : Below w.heap.size w W := by rw [← hW]; exact below_puts (by omega) [.slice xa0 d0.length xc0, .slice xa1 d1.length xc1, .slice xa2 d2.length xc2, .slice xa3 d3.length xc3, .slice xa4 d4.length xc4, .slice xa5 d5.length xc5] 0 _ HT.low
  have HA : Blk W w.heap.size #[.slice va0 l1.length vc0, .slice va1 g1.length vc1, .slice va2 h1.length vc2, .slice va3 q1.length vc3] := by rw [← hW]; exact Blk.puts_far (by omega) [.slice xa0 d0.length xc0, .slice xa1 d1.length xc1, .slice xa2 d2.length xc2, .slice xa3 d3.length xc3, .slice xa4 d4.length xc4, .slice xa5 d5.length xc5] 0 _ HT.a
  have HB : Blk W (w.heap.size + 1) #[.slice ua0 l2.length uc0, .slice ua1 g2.length uc1, .slice ua2 h2.length uc2, .slice ua3 q2.length uc3] := by rw [← hW]; exact Blk.puts_far (by omega) [.slice xa0 d0.length xc0, .slice xa1 d1.length xc1, .slice xa2 d2.length xc2, .slice xa3 d3.length xc3, .slice xa4 d4.length xc4, .slice xa5 d5.length xc5] 0 _ HT.b
  have HDV := Lib.hid HDV
  have HLOW := Lib.hid HLOW
  clear hW HBS HC HT HS0 HS1 HS2 HS3 HS4 HS5
  (refine hK.out _ _ (⟨HA.1, HB.1⟩) (fun hHeld => ?_); clear hK K; (try simp only [Act.put, List.setIfInBounds_toArray, List.set_cons_zero, List.set_cons_succ]))
  obtain ⟨cw, fw, zw⟩ := HW
  clear HA HB
  refine wpAnyH_done (by kernel_rfl) ?_ _
  go_wp2
  refine bodyPost_ret (v := dv _ _ _ _ _ _) (by simp [results, Tryz.results8, go_sem, cw]) rfl ⟨_, rfl, HDV.out, HLOW.out⟩
end Go.Proofs.YtmpanikeeeoikaaGreat
namespace Go.Proofs.YtmpanikeeeoikaaGreat
open Go.RowKit Go.Shelf

theorem Dl.of_le {l1 l2 : List St} {g1 h1 g2 h2 : List Rl} {k m : Nat} (n1 : l1.length ≤ k) (n2 : l2.length ≤ k) (n3 : g1.length ≤ k) (n4 : g2.length ≤ k) (n5 : h1.length ≤ k) (n6 : h2.length ≤ k)
    (t1 : allLe l1 m) (t2 : allLe l2 m) (t3 : ∀ x ∈ g1, x.le m) (t4 : ∀ x ∈ g2, x.le m) (t5 : ∀ x ∈ h1, x.le m) (t6 : ∀ x ∈ h2, x.le m) : (Dl.of l1 g1 h1 l2 g2 h2).le k m where
  n0 := Nat.le_trans (minus_len _ _) n2
  n1 := Nat.le_trans (minus_len _ _) n1
  n2 := Nat.le_trans (out_lenR _ _) n4
  n3 := Nat.le_trans (out_lenR _ _) n3
  n4 := Nat.le_trans (out_lenR _ _) n6
  n5 := Nat.le_trans (out_lenR _ _) n5
  t0 := fun x hx => t2 x ((minus_mem _ _ _).1 hx).1
  t1 := fun x hx => t1 x ((minus_mem _ _ _).1 hx).1
  t2 := fun x hx => t4 x ((out_memR _ _ _).1 hx).1
  t3 := fun x hx => t3 x ((out_memR _ _ _).1 hx).1
  t4 := fun x hx => t6 x ((out_memR _ _ _).1 hx).1
  t5 := fun x hx => t5 x ((out_memR _ _ _).1 hx).1
theorem Dl.le.mono {d : Dl} {k m k' m' : Nat} (h : d.le k m) (hk : k ≤ k') (hm : m ≤ m') : d.le k' m' where
  n0 := Nat.le_trans h.n0 hk
  n1 := Nat.le_trans h.n1 hk
  n2 := Nat.le_trans h.n2 hk
  n3 := Nat.le_trans h.n3 hk
  n4 := Nat.le_trans h.n4 hk
  n5 := Nat.le_trans h.n5 hk
  t0 := fun x hx => (h.t0 x hx).mono hm
  t1 := fun x hx => (h.t1 x hx).mono hm
  t2 := fun x hx => (h.t2 x hx).mono hm
  t3 := fun x hx => (h.t3 x hx).mono hm
  t4 := fun x hx => (h.t4 x hx).mono hm
  t5 := fun x hx => (h.t5 x hx).mono hm
theorem Dl.le.back {d : Dl} {k m : Nat} (h : d.le k m) : d.back.le k m := ⟨h.n1, h.n0, h.n3, h.n2, h.n5, h.n4, h.t1, h.t0, h.t3, h.t2, h.t5, h.t4⟩
set_option maxRecDepth 100000 in
set_option maxHeartbeats 4000000 in
theorem delta_Tightens (v0 v1 v2 v3 u0 u1 u2 u3 : Value) (l1 l2 : List St) (g1 h1 g2 h2 : List Rl) (q1 q2 : List Qv) (w : World) (hp : PolAt w v0 v1 v2 v3 l1 g1 h1 q1) (hq : PolAt w u0 u1 u2 u3 l2 g2 h2 q2)
    (n1 : l1.length ≤ 300) (n2 : l2.length ≤ 300) (n3 : g1.length ≤ 300) (n4 : g2.length ≤ 300) (n5 : h1.length ≤ 300) (n6 : h2.length ≤ 300) :
    Calls Tryz.prog 12 #[pv v0 v1 v2 v3, pv u0 u1 u2 u3] w fun e w' => e = .returned (.bool (Dl.of l1 g1 h1 l2 g2 h2).tight) ∧ Below w.heap.size w w' := by
  have OF := Lib.hid (fun W (hb : Below w.heap.size w W) => delta_Of v0 v1 v2 v3 u0 u1 u2 u3 l1 l2 g1 h1 g2 h2 q1 q2 W (hp.below hb) (hq.below hb) (by omega) (by omega) (by omega) (by omega) (by omega) (by omega))
  have b0 : (Dl.of l1 g1 h1 l2 g2 h2).more.length ≤ 300 := Nat.le_trans (minus_len _ _) n2
  have b1 : (Dl.of l1 g1 h1 l2 g2 h2).gone.length ≤ 300 := Nat.le_trans (minus_len _ _) n1
  have b3 : (Dl.of l1 g1 h1 l2 g2 h2).ungrow.length ≤ 300 := Nat.le_trans (out_lenR _ _) n3
  have b5 : (Dl.of l1 g1 h1 l2 g2 h2).unshrink.length ≤ 300 := Nat.le_trans (out_lenR _ _) n5
  obtain ⟨va0, vc0, rfl⟩ := hp.rs.form
  obtain ⟨va1, vc1, rfl⟩ := hp.rg.form
  obtain ⟨va2, vc2, rfl⟩ := hp.rh.form
  obtain ⟨va3, vc3, rfl⟩ := hp.rq.form
  obtain ⟨ua0, uc0, rfl⟩ := hq.rs.form
  obtain ⟨ua1, uc1, rfl⟩ := hq.rg.form
  obtain ⟨ua2, uc2, rfl⟩ := hq.rh.form
  obtain ⟨ua3, uc3, rfl⟩ := hq.rq.form
  have HT := Lib.hid (TwoAt.new w #[.slice va0 l1.length vc0, .slice va1 g1.length vc1, .slice va2 h1.length vc2, .slice va3 q1.length vc3] #[.slice ua0 l2.length uc0, .slice ua1 g2.length uc1, .slice ua2 h2.length uc2, .slice ua3 q2.length uc3] 26 26)
  generalize Dl.of l1 g1 h1 l2 g2 h2 = d at *
  clear hp hq
  have R : Hid (((((d.more.length : Int) + d.gone.length) + d.ungrow.length) + d.unshrink.length == 0) = d.tight) := Lib.hid (by
    unfold Dl.tight
    rw [Bool.eq_iff_iff, beq_iff_eq, decide_eq_true_iff]
    omega)
  generalize d.tight = r at R ⊢
  go_enter Tryz.func12, Tryz.ntmps12
  go_wp2_with fail
  refine (OF.out _ HT.out.low).mono ?_
  rintro e w1 ⟨v, rfl, ⟨x0, x1, x2, x3, x4, x5, rfl, hd⟩, hb⟩
  have HB := Lib.hid (HT.out.later hb).low
  obtain ⟨a0, c0, rfl⟩ := hd.a0.form
  obtain ⟨a1, c1, rfl⟩ := hd.a1.form
  obtain ⟨a2, c2, rfl⟩ := hd.a2.form
  obtain ⟨a3, c3, rfl⟩ := hd.a3.form
  obtain ⟨a4, c4, rfl⟩ := hd.a4.form
  obtain ⟨a5, c5, rfl⟩ := hd.a5.form
  have hz := HB.out.size
  clear hd hb OF
  generalize d.more.length = l0 at *
  generalize d.gone.length = l1' at *
  generalize d.ungrow.length = l3 at *
  generalize d.unshrink.length = l5 at *
  have e1 : IntKind.i64.wrap ((l0 : Int) + l1') = l0 + l1' := Go.IntWalk.i64_in _ (by omega)
  have e2 : IntKind.i64.wrap ((l0 : Int) + l1' + l3) = l0 + l1' + l3 := Go.IntWalk.i64_in _ (by omega)
  have e3 : IntKind.i64.wrap ((l0 : Int) + l1' + l3 + l5) = l0 + l1' + l3 + l5 := Go.IntWalk.i64_in _ (by omega)
  go_wp2
  go_ret
  exact ⟨by rw [← R.out]; rfl, HB.out.alloc HB.out.size _⟩
end Go.Proofs.YtmpanikeeeoikaaGreat
