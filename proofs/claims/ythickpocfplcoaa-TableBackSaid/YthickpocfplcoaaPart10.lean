/- table.Right (printed by gen_tabright.py). table.Table.Stmt (printed by gen_tabstmt.py). -/
import Derived.Test.YthickpocfplcoaaPart9
import Derived.Test.YthickpocfplcoaaPart8
import Derived.Test.YthickpocfplcoaaPart3
namespace Go.Proofs.Ythickpocfplcoaa
open Go.RowKit Go.Shelf

set_option maxRecDepth 100000 in
set_option maxHeartbeats 4000000 in
theorem right_role (g g' p l : Nat) (i : Int) (w : World) (c0 : w.cell? ⟨g, 0, none⟩ = some (.int .i64 p)) (c1 : w.cell? ⟨g', 0, none⟩ = some (.int .i64 l)) (hp : p ≤ 1000) (hl : l ≤ 1000) :
    Calls Try.prog 41 #[.int .i64 i, .pointer (some ⟨g, 0, none⟩), .pointer (some ⟨g', 0, none⟩)] w fun e w' => e = .returned (.bool (inR (p * l) i)) ∧ w' = w := by
  have hmul : p * l ≤ 1000 * 1000 := Nat.mul_le_mul hp hl
  have wr1 : IntKind.i64.wrap ((p : Int) * (l : Int)) = (p : Int) * (l : Int) := Go.IntWalk.i64_in _ (by rw [← Int.natCast_mul]; omega)
  have R := Lib.hid (show inR (p * l) i = (decide (0 ≤ i) && decide (i < (p : Int) * (l : Int))) by unfold inR; rw [← Int.natCast_mul]; simp)
  by_cases h0 : 0 ≤ i
  · by_cases h1 : i < (p : Int) * (l : Int)
    · go_enter Try.func41, Try.ntmps41
      go_wp2
      go_ret
      exact ⟨by rw [R.out]; simp [h0, h1], rfl⟩
    · go_enter Try.func41, Try.ntmps41
      go_wp2
      go_ret
      exact ⟨by rw [R.out]; simp [h0, h1], rfl⟩
  · have hd := Lib.hid (decide_eq_false h0)
    go_enter Try.func41, Try.ntmps41
    go_wp2
    go_ret
    exact ⟨by rw [R.out, hd.out]; rfl, rfl⟩
/-- The call's own blocks. -/
structure RightAt (w : World) (p l : Int) (A B : Array Value) (wx : World) : Prop where
  p : Blk wx w.heap.size #[.int .i64 p]
  l : Blk wx (w.heap.size + 1) #[.int .i64 l]
  a : Blk wx (w.heap.size + 1 + 1) A
  b : Blk wx (w.heap.size + 1 + 1 + 1) B
  low : Below w.heap.size w wx
theorem RightAt.put {w wx : World} {p l : Int} {A B C : Array Value} {o : Nat} {v : Value} (h : RightAt w p l A B wx) (ho : o < B.size) (hC : B.setIfInBounds o v = C) : RightAt w p l A C (wx.setCell ⟨w.heap.size + 1 + 1 + 1, o, none⟩ v) :=
  ⟨h.p.far (by omega), h.l.far (by omega), h.a.far (by omega), by rw [← hC]; exact h.b.put (o := o) (v := v) ho, below_put h.low (by omega)⟩
theorem RightAt.drew {w wx : World} {p l : Int} {A B : Array Value} (h : RightAt w p l A B wx) : RightAt w p l A B wx.drew :=
  have hb : Below wx.heap.size wx wx.drew := below_drew (Below.refl _ _)
  ⟨h.p.below hb, h.l.below hb, h.a.below hb, h.b.below hb, h.low.trans (hb.mono h.low.size)⟩
theorem RightAt.new (w : World) (p l : Int) (A B : Array Value) (t u : TypeId) : RightAt w p l A B ((((w.alloc (.cells #[.int .i64 p] t)).alloc (.cells #[.int .i64 l] t)).alloc (.cells A u)).alloc (.cells B u)) :=
  ⟨(((Blk.new w _ t).alloc _).alloc _).alloc _,
   by have := (((Blk.new (w.alloc (.cells #[.int .i64 p] t)) #[.int .i64 l] t).alloc (.cells A u)).alloc (.cells B u)); simpa using this,
   by have := ((Blk.new ((w.alloc (.cells #[.int .i64 p] t)).alloc (.cells #[.int .i64 l] t)) A u).alloc (.cells B u)); simpa using this,
   by have := (Blk.new (((w.alloc (.cells #[.int .i64 p] t)).alloc (.cells #[.int .i64 l] t)).alloc (.cells A u)) B u); simpa using this,
   ((((Below.refl _ _).alloc (Nat.le_refl _) _).alloc (by simp) _).alloc (by simp; omega) _).alloc (by simp; omega) _⟩
section
variable {p l : Nat} {rh who ra rb via : Int}
theorem okRu_1 (hp : p ≤ 1000) (hl : l ≤ 1000) : okRu p l ⟨1, rh, who, ra, rb, via⟩ = (inR (p * l) rh && (eqRu ⟨1, rh, who, ra, rb, via⟩ ⟨1, rh, who, 0, 0, 0⟩ && (decide (0 ≤ who) && decide (who < (p : Int))))) := by
  unfold okRu; rw [decide_eq_true hp, decide_eq_true hl]; simp [eqRu, inR]
theorem okRu_2 (hp : p ≤ 1000) (hl : l ≤ 1000) : okRu p l ⟨2, rh, who, ra, rb, via⟩ = (inR (p * l) rh && (eqRu ⟨2, rh, who, ra, rb, via⟩ ⟨2, rh, 0, ra, 0, 0⟩ && inR (p * l) ra)) := by
  unfold okRu; rw [decide_eq_true hp, decide_eq_true hl]; simp [eqRu]
theorem okRu_3 (hp : p ≤ 1000) (hl : l ≤ 1000) : okRu p l ⟨3, rh, who, ra, rb, via⟩ = (inR (p * l) rh && (eqRu ⟨3, rh, who, ra, rb, via⟩ ⟨3, rh, 0, ra, 0, via⟩ && (inR (p * l) ra && (decide (0 ≤ via) && decide (via < (l : Int)))))) := by
  unfold okRu; rw [decide_eq_true hp, decide_eq_true hl]; simp [eqRu, inR, Bool.and_assoc]
theorem okRu_4 (hp : p ≤ 1000) (hl : l ≤ 1000) : okRu p l ⟨4, rh, who, ra, rb, via⟩ = (inR (p * l) rh && (inR (p * l) rb && (eqRu ⟨4, rh, who, ra, rb, via⟩ ⟨4, rh, 0, ra, rb, 0⟩ && inR (p * l) ra))) := by
  unfold okRu; rw [decide_eq_true hp, decide_eq_true hl]; simp [eqRu, Bool.and_assoc, Bool.and_left_comm, Bool.and_comm]
theorem okRu_0 {k : Int} (h1 : ¬ k = 1) (h2 : ¬ k = 2) (h3 : ¬ k = 3) (h4 : ¬ k = 4) : okRu p l ⟨k, rh, who, ra, rb, via⟩ = false := by
  unfold okRu; simp [h1, h2, h3, h4]
end
set_option maxRecDepth 100000 in
set_option maxHeartbeats 16000000 in
theorem table_Right (p l : Nat) (r : Ru) (w : World) (hp : p ≤ 1000) (hl : l ≤ 1000) :
    Calls Try.prog 23 #[.int .i64 p, .int .i64 l, ruv r] w fun e w' => e = .returned (.bool (okRu p l r)) ∧ Below w.heap.size w w' := by
  obtain ⟨k, rh, who, ra, rb, via⟩ := r
  have t1 : decide ((p : Int) < 0) = false := by rw [decide_eq_false_iff_not]; omega
  have t2 : decide ((l : Int) < 0) = false := by rw [decide_eq_false_iff_not]; omega
  have t3 : decide (1000 < (p : Int)) = false := by rw [decide_eq_false_iff_not]; omega
  have t4 : decide (1000 < (l : Int)) = false := by rw [decide_eq_false_iff_not]; omega
  have R1 := Lib.hid (okRu_1 (rh := rh) (who := who) (ra := ra) (rb := rb) (via := via) hp hl)
  have R2 := Lib.hid (okRu_2 (rh := rh) (who := who) (ra := ra) (rb := rb) (via := via) hp hl)
  have R3 := Lib.hid (okRu_3 (rh := rh) (who := who) (ra := ra) (rb := rb) (via := via) hp hl)
  have R4 := Lib.hid (okRu_4 (rh := rh) (who := who) (ra := ra) (rb := rb) (via := via) hp hl)
  have R0 := Lib.hid (@okRu_0 p l rh who ra rb via k)
  have RO := Lib.hid (fun (A B : Array Value) W (h : RightAt w p l A B W) => right_role w.heap.size (w.heap.size + 1) p l rh W (h.p.1 0) (h.l.1 0) hp hl)
  have RA := Lib.hid (fun (A B : Array Value) W (h : RightAt w p l A B W) => right_role w.heap.size (w.heap.size + 1) p l ra W (h.p.1 0) (h.l.1 0) hp hl)
  have RB := Lib.hid (fun (A B : Array Value) W (h : RightAt w p l A B W) => right_role w.heap.size (w.heap.size + 1) p l rb W (h.p.1 0) (h.l.1 0) hp hl)
  have HT := Lib.hid (RightAt.new w p l #[.int .i64 k, .int .i64 rh, .int .i64 who, .int .i64 ra, .int .i64 rb, .int .i64 via] #[.int .i64 k, .int .i64 rh, .int .i64 0, .int .i64 0, .int .i64 0, .int .i64 0] 3 34)
  clear hp hl
  generalize inR (p * l) rh = ok at RO R1 R2 R3 R4
  generalize inR (p * l) ra = oa at RA R2 R3 R4
  generalize inR (p * l) rb = ob at RB R4
  go_enter Try.func23, Try.ntmps23
  go_wp2_with fail
  obtain ⟨w1, hw1⟩ : ∃ V, V = (((w.alloc (.cells #[.int .i64 p] 3)).alloc (.cells #[.int .i64 l] 3)).alloc (.cells #[.int .i64 k, .int .i64 rh, .int .i64 who, .int .i64 ra, .int .i64 rb, .int .i64 via] 34)).alloc (.cells #[.int .i64 k, .int .i64 rh, .int .i64 0, .int .i64 0, .int .i64 0, .int .i64 0] 34) := ⟨_, rfl⟩
  rw [← hw1] at HT ⊢
  clear hw1 t1 t2 t3 t4
  refine (RO.out _ _ _ HT.out).mono ?_
  rintro e wx ⟨rfl, rfl⟩
  obtain ⟨cp, fp, zp⟩ := HT.out.p
  obtain ⟨cl, fl, zl⟩ := HT.out.l
  obtain ⟨ca, fa, za⟩ := HT.out.a
  obtain ⟨cb, fb, zb⟩ := HT.out.b
  by_cases hk : k = 1
  · skip
    subst hk
    go_upto_region 12 with fail
    clear cp fp zp cl fl zl ca fa za cb fb zb
    generalize hw : wx.setCell ⟨w.heap.size + 1 + 1 + 1, 2, none⟩ (.int .i64 who) = wp1
    have HT := Lib.hid (show RightAt w p l #[.int .i64 1, .int .i64 rh, .int .i64 who, .int .i64 ra, .int .i64 rb, .int .i64 via] #[.int .i64 1, .int .i64 rh, .int .i64 who, .int .i64 0, .int .i64 0, .int .i64 0] wp1 by rw [← hw]; exact HT.out.put (o := 2) (v := .int .i64 who) (by simp) (by simp))
    clear hw
    obtain ⟨cp, fp, zp⟩ := HT.out.p
    obtain ⟨cl, fl, zl⟩ := HT.out.l
    obtain ⟨ca, fa, za⟩ := HT.out.a
    obtain ⟨cb, fb, zb⟩ := HT.out.b
    have HE : ∀ W, (binOp .eql 34 (.agg #[.int .i64 1, .int .i64 rh, .int .i64 who, .int .i64 ra, .int .i64 rb, .int .i64 via]) (.agg #[.int .i64 1, .int .i64 rh, .int .i64 who, .int .i64 0, .int .i64 0, .int .i64 0])).run Try.prog W = .ok (.bool (eqRu ⟨1, rh, who, ra, rb, via⟩ ⟨1, rh, who, 0, 0, 0⟩)) W := fun W => rule_eql 1 rh who ra rb via 1 rh who 0 0 0 W
    generalize eqRu ⟨1, rh, who, ra, rb, via⟩ ⟨1, rh, who, 0, 0, 0⟩ = ee at HE R1
    cases ok with
    | false =>
      go_wp2
      go_ret
      exact ⟨by rw [R1.out]; rfl, HT.out.low⟩
    | true =>
      cases ee with
      | false =>
        go_wp2
        go_ret
        exact ⟨by rw [R1.out]; rfl, HT.out.low⟩
      | true =>
        by_cases h0 : 0 ≤ who
        · skip
          have hd : decide (0 ≤ who) = true := decide_eq_true h0
          by_cases h1 : who < (p : Int)
          · skip
            have hd2 : decide (who < (p : Int)) = true := decide_eq_true h1
            go_wp2
            go_ret
            exact ⟨by rw [R1.out, hd, hd2]; rfl, HT.out.low⟩
          · skip
            have hd2 : decide (who < (p : Int)) = false := decide_eq_false h1
            go_wp2
            go_ret
            exact ⟨by rw [R1.out, hd, hd2]; rfl, HT.out.low⟩
        · skip
          have hd : decide (0 ≤ who) = false := decide_eq_false h0
          go_wp2
          go_ret
          exact ⟨by rw [R1.out, hd]; rfl, HT.out.low⟩
  have n1 := hk
  clear hk
  by_cases hk : k = 2
  · skip
    subst hk
    go_upto_region 16 with fail
    clear cp fp zp cl fl zl ca fa za cb fb zb
    generalize hw : wx.setCell ⟨w.heap.size + 1 + 1 + 1, 3, none⟩ (.int .i64 ra) = wp2
    have HT := Lib.hid (show RightAt w p l #[.int .i64 2, .int .i64 rh, .int .i64 who, .int .i64 ra, .int .i64 rb, .int .i64 via] #[.int .i64 2, .int .i64 rh, .int .i64 0, .int .i64 ra, .int .i64 0, .int .i64 0] wp2 by rw [← hw]; exact HT.out.put (o := 3) (v := .int .i64 ra) (by simp) (by simp))
    clear hw
    obtain ⟨cp, fp, zp⟩ := HT.out.p
    obtain ⟨cl, fl, zl⟩ := HT.out.l
    obtain ⟨ca, fa, za⟩ := HT.out.a
    obtain ⟨cb, fb, zb⟩ := HT.out.b
    have HE : ∀ W, (binOp .eql 34 (.agg #[.int .i64 2, .int .i64 rh, .int .i64 who, .int .i64 ra, .int .i64 rb, .int .i64 via]) (.agg #[.int .i64 2, .int .i64 rh, .int .i64 0, .int .i64 ra, .int .i64 0, .int .i64 0])).run Try.prog W = .ok (.bool (eqRu ⟨2, rh, who, ra, rb, via⟩ ⟨2, rh, 0, ra, 0, 0⟩)) W := fun W => rule_eql 2 rh who ra rb via 2 rh 0 ra 0 0 W
    generalize eqRu ⟨2, rh, who, ra, rb, via⟩ ⟨2, rh, 0, ra, 0, 0⟩ = ee at HE R2
    cases ok with
    | false =>
      go_wp2
      go_ret
      exact ⟨by rw [R2.out]; rfl, HT.out.low⟩
    | true =>
      cases ee with
      | false =>
        go_wp2
        go_ret
        exact ⟨by rw [R2.out]; rfl, HT.out.low⟩
      | true =>
        go_wp2_with fail
        refine (RA.out _ _ _ HT.out).mono ?_
        rintro e wz ⟨rfl, rfl⟩
        go_wp2
        go_ret
        exact ⟨by rw [R2.out]; rfl, HT.out.low⟩
  have n2 := hk
  clear hk
  by_cases hk : k = 3
  · skip
    subst hk
    go_wp2_with fail
    clear cp fp zp cl fl zl ca fa za cb fb zb
    refine wp_region_held_drew (S := (fun W => ∀ o, W.cell? ⟨w.heap.size + 1 + 1, o, none⟩ = (#[.int .i64 3, .int .i64 rh, .int .i64 who, .int .i64 ra, .int .i64 rb, .int .i64 via] : Array Value)[o]?)) (by kernel_rfl) HT.out.drew.a.1 (fun hHeld => ?_)
    have HT := HT.out.drew
    obtain ⟨wk, hwk⟩ : ∃ W, W = wx.drew := ⟨_, rfl⟩
    rw [← hwk] at HT hHeld ⊢
    clear hwk
    (refine held_yes (v := ?_) 0 rfl (by kernel_rfl) (by kernel_rfl) (by kernel_rfl) (fun _ _ _ h => h) (by rfl) (by assumption) ?_ ?_; rotate_left; (focus ((intro w hSw); (try dsimp only at hSw); go_simp; (try with_reducible rfl))); (try simp only [Act.put, List.setIfInBounds_toArray, List.set_cons_zero, List.set_cons_succ])); (refine held_yes (v := ?_) 1 rfl (by kernel_rfl) (by kernel_rfl) (by kernel_rfl) (fun _ _ _ h => h) (by rfl) (by assumption) ?_ ?_; rotate_left; (focus ((intro w hSw); (try dsimp only at hSw); go_simp; (try with_reducible rfl))); (try simp only [Act.put, List.setIfInBounds_toArray, List.set_cons_zero, List.set_cons_succ])); (refine held_yes (v := ?_) 2 rfl (by kernel_rfl) (by kernel_rfl) (by kernel_rfl) (fun _ _ _ h => h) (by rfl) (by assumption) ?_ ?_; rotate_left; (focus ((intro w hSw); (try dsimp only at hSw); go_simp; (try with_reducible rfl))); (try simp only [Act.put, List.setIfInBounds_toArray, List.set_cons_zero, List.set_cons_succ])); (refine held_yes (v := ?_) 3 rfl (by kernel_rfl) (by kernel_rfl) (by kernel_rfl) (fun _ _ _ h => h) (by rfl) (by assumption) ?_ ?_; rotate_left; (focus ((intro w hSw); (try dsimp only at hSw); go_simp; (try with_reducible rfl))); (try simp only [Act.put, List.setIfInBounds_toArray, List.set_cons_zero, List.set_cons_succ])); (refine held_yes (v := ?_) 4 rfl (by kernel_rfl) (by kernel_rfl) (by kernel_rfl) (fun _ _ _ h => h) (by rfl) (by assumption) ?_ ?_; rotate_left; (focus ((intro w hSw); (try dsimp only at hSw); go_simp; (try with_reducible rfl))); (try simp only [Act.put, List.setIfInBounds_toArray, List.set_cons_zero, List.set_cons_succ]))
    obtain ⟨cb, fb, zb⟩ := HT.b
    (refine held_call 5 rfl (by kernel_rfl) (fun K hK => ?_); go_simp)
    clear cb fb zb
    generalize hw : wk.setCell ⟨w.heap.size + 1 + 1 + 1, 3, none⟩ (.int .i64 ra) = wk1
    have HT : RightAt w p l #[.int .i64 3, .int .i64 rh, .int .i64 who, .int .i64 ra, .int .i64 rb, .int .i64 via] #[.int .i64 3, .int .i64 rh, .int .i64 0, .int .i64 ra, .int .i64 0, .int .i64 0] wk1 := by rw [← hw]; exact HT.put (o := 3) (v := .int .i64 ra) (by simp) (by simp)
    clear hw
    (refine hK.out _ _ (HT.a.1) (fun hHeld => ?_); clear hK K; (try simp only [Act.put, List.setIfInBounds_toArray, List.set_cons_zero, List.set_cons_succ]))
    (refine held_yes (v := ?_) 6 rfl (by kernel_rfl) (by kernel_rfl) (by kernel_rfl) (fun _ _ _ h => h) (by rfl) (by assumption) ?_ ?_; rotate_left; (focus ((intro w hSw); (try dsimp only at hSw); go_simp; (try with_reducible rfl))); (try simp only [Act.put, List.setIfInBounds_toArray, List.set_cons_zero, List.set_cons_succ]))
    obtain ⟨cb, fb, zb⟩ := HT.b
    (refine held_call 7 rfl (by kernel_rfl) (fun K hK => ?_); go_simp)
    clear cb fb zb
    generalize hw : wk1.setCell ⟨w.heap.size + 1 + 1 + 1, 5, none⟩ (.int .i64 via) = wk2
    have HT : RightAt w p l #[.int .i64 3, .int .i64 rh, .int .i64 who, .int .i64 ra, .int .i64 rb, .int .i64 via] #[.int .i64 3, .int .i64 rh, .int .i64 0, .int .i64 ra, .int .i64 0, .int .i64 via] wk2 := by rw [← hw]; exact HT.put (o := 5) (v := .int .i64 via) (by simp) (by simp)
    clear hw
    (refine hK.out _ _ (HT.a.1) (fun hHeld => ?_); clear hK K; (try simp only [Act.put, List.setIfInBounds_toArray, List.set_cons_zero, List.set_cons_succ]))
    refine wpAnyH_done (by kernel_rfl) ?_ _
    have HT := Lib.hid HT
    obtain ⟨cp, fp, zp⟩ := HT.out.p
    obtain ⟨cl, fl, zl⟩ := HT.out.l
    obtain ⟨ca, fa, za⟩ := HT.out.a
    obtain ⟨cb, fb, zb⟩ := HT.out.b
    have HE : ∀ W, (binOp .eql 34 (.agg #[.int .i64 3, .int .i64 rh, .int .i64 who, .int .i64 ra, .int .i64 rb, .int .i64 via]) (.agg #[.int .i64 3, .int .i64 rh, .int .i64 0, .int .i64 ra, .int .i64 0, .int .i64 via])).run Try.prog W = .ok (.bool (eqRu ⟨3, rh, who, ra, rb, via⟩ ⟨3, rh, 0, ra, 0, via⟩)) W := fun W => rule_eql 3 rh who ra rb via 3 rh 0 ra 0 via W
    generalize eqRu ⟨3, rh, who, ra, rb, via⟩ ⟨3, rh, 0, ra, 0, via⟩ = ee at HE R3
    cases ok with
    | false =>
      go_wp2
      go_ret
      exact ⟨by rw [R3.out]; rfl, HT.out.low⟩
    | true =>
      cases ee with
      | false =>
        go_wp2
        go_ret
        exact ⟨by rw [R3.out]; rfl, HT.out.low⟩
      | true =>
        go_wp2_with fail
        refine (RA.out _ _ _ HT.out).mono ?_
        rintro e wz ⟨rfl, rfl⟩
        cases oa with
        | false =>
          go_wp2
          go_ret
          exact ⟨by rw [R3.out]; rfl, HT.out.low⟩
        | true =>
          by_cases h0 : 0 ≤ via
          · skip
            have hd : decide (0 ≤ via) = true := decide_eq_true h0
            by_cases h1 : via < (l : Int)
            · skip
              have hd2 : decide (via < (l : Int)) = true := decide_eq_true h1
              go_wp2
              go_ret
              exact ⟨by rw [R3.out, hd, hd2]; rfl, HT.out.low⟩
            · skip
              have hd2 : decide (via < (l : Int)) = false := decide_eq_false h1
              go_wp2
              go_ret
              exact ⟨by rw [R3.out, hd, hd2]; rfl, HT.out.low⟩
          · skip
            have hd : decide (0 ≤ via) = false := decide_eq_false h0
            go_wp2
            go_ret
            exact ⟨by rw [R3.out, hd]; rfl, HT.out.low⟩
  have n3 := hk
  clear hk
  by_cases hk : k = 4
  · skip
    subst hk
    go_upto_region 14 with fail
    clear cp fp zp cl fl zl ca fa za cb fb zb
    generalize hw : wx.setCell ⟨w.heap.size + 1 + 1 + 1, 4, none⟩ (.int .i64 rb) = wp3
    have HT := Lib.hid (show RightAt w p l #[.int .i64 4, .int .i64 rh, .int .i64 who, .int .i64 ra, .int .i64 rb, .int .i64 via] #[.int .i64 4, .int .i64 rh, .int .i64 0, .int .i64 0, .int .i64 rb, .int .i64 0] wp3 by rw [← hw]; exact HT.out.put (o := 4) (v := .int .i64 rb) (by simp) (by simp))
    clear hw
    cases ok with
    | false =>
      obtain ⟨cp, fp, zp⟩ := HT.out.p
      obtain ⟨cl, fl, zl⟩ := HT.out.l
      obtain ⟨ca, fa, za⟩ := HT.out.a
      obtain ⟨cb, fb, zb⟩ := HT.out.b
      go_upto_region 16 with fail
      clear cp fp zp cl fl zl ca fa za cb fb zb
      generalize hw : wp3.setCell ⟨w.heap.size + 1 + 1 + 1, 3, none⟩ (.int .i64 ra) = wp4
      have HT := Lib.hid (show RightAt w p l #[.int .i64 4, .int .i64 rh, .int .i64 who, .int .i64 ra, .int .i64 rb, .int .i64 via] #[.int .i64 4, .int .i64 rh, .int .i64 0, .int .i64 ra, .int .i64 rb, .int .i64 0] wp4 by rw [← hw]; exact HT.out.put (o := 3) (v := .int .i64 ra) (by simp) (by simp))
      clear hw
      obtain ⟨cp, fp, zp⟩ := HT.out.p
      obtain ⟨cl, fl, zl⟩ := HT.out.l
      obtain ⟨ca, fa, za⟩ := HT.out.a
      obtain ⟨cb, fb, zb⟩ := HT.out.b
      go_wp2
      go_ret
      exact ⟨by rw [R4.out]; rfl, HT.out.low⟩
    | true =>
      obtain ⟨cp, fp, zp⟩ := HT.out.p
      obtain ⟨cl, fl, zl⟩ := HT.out.l
      obtain ⟨ca, fa, za⟩ := HT.out.a
      obtain ⟨cb, fb, zb⟩ := HT.out.b
      go_wp2_with fail
      refine (RB.out _ _ _ HT.out).mono ?_
      rintro e wy ⟨rfl, rfl⟩
      go_upto_region 16 with fail
      clear cp fp zp cl fl zl ca fa za cb fb zb
      generalize hw : wy.setCell ⟨w.heap.size + 1 + 1 + 1, 3, none⟩ (.int .i64 ra) = wp5
      have HT := Lib.hid (show RightAt w p l #[.int .i64 4, .int .i64 rh, .int .i64 who, .int .i64 ra, .int .i64 rb, .int .i64 via] #[.int .i64 4, .int .i64 rh, .int .i64 0, .int .i64 ra, .int .i64 rb, .int .i64 0] wp5 by rw [← hw]; exact HT.out.put (o := 3) (v := .int .i64 ra) (by simp) (by simp))
      clear hw
      obtain ⟨cp, fp, zp⟩ := HT.out.p
      obtain ⟨cl, fl, zl⟩ := HT.out.l
      obtain ⟨ca, fa, za⟩ := HT.out.a
      obtain ⟨cb, fb, zb⟩ := HT.out.b
      have HE : ∀ W, (binOp .eql 34 (.agg #[.int .i64 4, .int .i64 rh, .int .i64 who, .int .i64 ra, .int .i64 rb, .int .i64 via]) (.agg #[.int .i64 4, .int .i64 rh, .int .i64 0, .int .i64 ra, .int .i64 rb, .int .i64 0])).run Try.prog W = .ok (.bool (eqRu ⟨4, rh, who, ra, rb, via⟩ ⟨4, rh, 0, ra, rb, 0⟩)) W := fun W => rule_eql 4 rh who ra rb via 4 rh 0 ra rb 0 W
      generalize eqRu ⟨4, rh, who, ra, rb, via⟩ ⟨4, rh, 0, ra, rb, 0⟩ = ee at HE R4
      cases ob with
      | false =>
        go_wp2
        go_ret
        exact ⟨by rw [R4.out]; rfl, HT.out.low⟩
      | true =>
        cases ee with
        | false =>
          go_wp2
          go_ret
          exact ⟨by rw [R4.out]; rfl, HT.out.low⟩
        | true =>
          go_wp2_with fail
          refine (RA.out _ _ _ HT.out).mono ?_
          rintro e wz ⟨rfl, rfl⟩
          go_wp2
          go_ret
          exact ⟨by rw [R4.out]; rfl, HT.out.low⟩
  go_wp2
  go_ret
  exact ⟨by rw [R0.out n1 n2 n3 hk]; rfl, HT.out.low⟩
end Go.Proofs.Ythickpocfplcoaa
namespace Go.Proofs.Ythickpocfplcoaa
open Go.RowKit Go.Shelf

def b64 (i : Int) : Prop := -9223372036854775808 ≤ i ∧ i ≤ 9223372036854775807
theorem inR_b64 {n : Nat} {i : Int} (hn : n ≤ 1000000) (h : inR n i = true) : b64 i := by
  obtain ⟨k, rfl, hk⟩ := inR_iff.1 h
  exact ⟨by omega, by omega⟩
theorem okRu_b64 {p l : Nat} {r : Ru} (h : okRu p l r = true) : b64 r.h ∧ (r.k = 1 → b64 r.who) ∧ (¬ r.k = 1 → b64 r.a) ∧ (r.k = 4 → b64 r.b) ∧ (r.k = 3 → b64 r.via) ∧ (r.k = 1 ∨ r.k = 2 ∨ r.k = 3 ∨ r.k = 4) := by
  unfold okRu at h
  simp only [Bool.and_eq_true, decide_eq_true_iff] at h
  obtain ⟨⟨⟨h1, h2⟩, h3⟩, h⟩ := h
  have hm : p * l ≤ 1000000 := Nat.le_trans (Nat.mul_le_mul h1 h2) (by decide)
  refine ⟨inR_b64 hm h3, ?_⟩
  by_cases k1 : r.k = 1
  · rw [if_pos k1] at h
    simp only [Bool.and_eq_true, decide_eq_true_iff] at h
    exact ⟨fun _ => inR_b64 (by omega) h.2, fun n => absurd k1 n, fun e => by omega, fun e => by omega, .inl k1⟩
  · rw [if_neg k1] at h
    by_cases k2 : r.k = 2
    · rw [if_pos k2] at h
      simp only [Bool.and_eq_true, decide_eq_true_iff] at h
      exact ⟨fun e => absurd e k1, fun _ => inR_b64 hm h.2, fun e => by omega, fun e => by omega, .inr (.inl k2)⟩
    · rw [if_neg k2] at h
      by_cases k3 : r.k = 3
      · rw [if_pos k3] at h
        simp only [Bool.and_eq_true, decide_eq_true_iff] at h
        exact ⟨fun e => absurd e k1, fun _ => inR_b64 hm h.1.2, fun e => by omega, fun _ => inR_b64 (by omega) h.2, .inr (.inr (.inl k3))⟩
      · rw [if_neg k3] at h
        by_cases k4 : r.k = 4
        · rw [if_pos k4] at h
          simp only [Bool.and_eq_true, decide_eq_true_iff] at h
          exact ⟨fun e => absurd e k1, fun _ => inR_b64 hm h.1.2, fun _ => inR_b64 hm h.2, fun e => by omega, .inr (.inr (.inr k4))⟩
        · rw [if_neg k4] at h; cases h

set_option maxRecDepth 100000 in
set_option maxHeartbeats 16000000 in
theorem table_Stmt {t ba bb : Nat} {a b : List ByteArray} {w : World} (h : TblAt w t ba bb a b) (r : Ru) :
    Calls Try.prog 22 #[.pointer (some ⟨t, 0, none⟩), ruv r] w fun e w' => e = .returned (.tuple #[sv (stmtN a b r).1, .bool (stmtN a b r).2]) ∧ Below w.heap.size w w' := by
  have RT := Lib.hid (fun W => table_Right a.length b.length r W h.na h.nb)
  have PR := Lib.hid (fun W (hb : Below w.heap.size w W) => table_Prins (h.below hb))
  have LK := Lib.hid (fun W (hb : Below w.heap.size w W) => table_Links (h.below hb))
  have L1 := Lib.hid (fun W (hb : Below w.heap.size w W) => tab_Len ba a W (h.ta.below hb))
  have L2 := Lib.hid (fun W (hb : Below w.heap.size w W) => tab_Len bb b W (h.tb.below hb))
  have RO := Lib.hid (fun i hi W (hb : Below w.heap.size w W) => table_RoleAt (h.below hb) i hi)
  have FA := Lib.hid (fun i hi W (hb : Below w.heap.size w W) => tab_At ba a i W (h.ta.below hb) hi)
  have FB := Lib.hid (fun i hi W (hb : Below w.heap.size w W) => tab_At bb b i W (h.tb.below hb) hi)
  clear h
  have RN := Lib.hid (stmtN_no (a := a) (b := b) (r := r))
  have RY := Lib.hid (stmtN_ok (a := a) (b := b) (r := r))
  have BD := Lib.hid (okRu_b64 (p := a.length) (l := b.length) (r := r))
  obtain ⟨k, rh, who, ra, rb, via⟩ := r
  have HT := Lib.hid (TwoAt.new' w #[.int .i64 k, .int .i64 rh, .int .i64 who, .int .i64 ra, .int .i64 rb, .int .i64 via] #[.int .i64 0, .string emp, .string emp, .string emp, .string emp, .string emp, .string emp, .string emp, .string emp] 34 26)
  go_enter Try.func22, Try.ntmps22
  go_wp2_with fail
  obtain ⟨w1, hw1⟩ : ∃ V, V = (w.alloc (.cells #[.int .i64 k, .int .i64 rh, .int .i64 who, .int .i64 ra, .int .i64 rb, .int .i64 via] 34)).alloc (.cells #[.int .i64 0, .string emp, .string emp, .string emp, .string emp, .string emp, .string emp, .string emp, .string emp] 26) := ⟨_, rfl⟩
  rw [← hw1] at HT ⊢
  clear hw1
  refine wp_region_held_drew (S := (fun W => ∀ o, W.cell? ⟨w.heap.size, o, none⟩ = (#[.int .i64 k, .int .i64 rh, .int .i64 who, .int .i64 ra, .int .i64 rb, .int .i64 via] : Array Value)[o]?)) (by kernel_rfl) HT.out.drew.a.1 (fun hHeld => ?_)
  have HT := HT.out.drew
  obtain ⟨wk, hwk⟩ : ∃ W, W = w1.drew := ⟨_, rfl⟩
  rw [← hwk] at HT hHeld ⊢
  clear hwk
  (refine held_yes (v := ?_) 0 rfl (by kernel_rfl) (by kernel_rfl) (by kernel_rfl) (fun _ _ _ h => h) (by rfl) (by assumption) ?_ ?_; rotate_left; (focus ((intro w hSw); (try dsimp only at hSw); go_simp; (try with_reducible rfl))); (try simp only [Act.put, List.setIfInBounds_toArray, List.set_cons_zero, List.set_cons_succ])); (refine held_yes (v := ?_) 3 rfl (by kernel_rfl) (by kernel_rfl) (by kernel_rfl) (fun _ _ _ h => h) (by rfl) (by assumption) ?_ ?_; rotate_left; (focus ((intro w hSw); (try dsimp only at hSw); go_simp; (try with_reducible rfl))); (try simp only [Act.put, List.setIfInBounds_toArray, List.set_cons_zero, List.set_cons_succ])); (refine held_yes (v := ?_) 6 rfl (by kernel_rfl) (by kernel_rfl) (by kernel_rfl) (fun _ _ _ h => h) (by rfl) (by assumption) ?_ ?_; rotate_left; (focus ((intro w hSw); (try dsimp only at hSw); go_simp; (try with_reducible rfl))); (try simp only [Act.put, List.setIfInBounds_toArray, List.set_cons_zero, List.set_cons_succ]))
  (refine held_call 1 rfl (by kernel_rfl) (fun K hK => ?_); go_simp)
  go_at_call 16; refine (PR.out _ HT.low).mono ?_; rintro e wq ⟨rfl, rfl⟩
  (refine hK.out _ _ (HT.a.1) (fun hHeld => ?_); clear hK K; (try simp only [Act.put, List.setIfInBounds_toArray, List.set_cons_zero, List.set_cons_succ]))
  (refine held_call 2 rfl (by kernel_rfl) (fun K hK => ?_); go_simp)
  go_at_call 17; refine (L1.out _ HT.low).mono ?_; rintro e wq2 ⟨rfl, rfl⟩
  (refine hK.out _ _ (HT.a.1) (fun hHeld => ?_); clear hK K; (try simp only [Act.put, List.setIfInBounds_toArray, List.set_cons_zero, List.set_cons_succ]))
  (refine held_call 4 rfl (by kernel_rfl) (fun K hK => ?_); go_simp)
  go_at_call 18; refine (LK.out _ HT.low).mono ?_; rintro e wq3 ⟨rfl, rfl⟩
  (refine hK.out _ _ (HT.a.1) (fun hHeld => ?_); clear hK K; (try simp only [Act.put, List.setIfInBounds_toArray, List.set_cons_zero, List.set_cons_succ]))
  (refine held_call 5 rfl (by kernel_rfl) (fun K hK => ?_); go_simp)
  go_at_call 17; refine (L2.out _ HT.low).mono ?_; rintro e wq4 ⟨rfl, rfl⟩
  (refine hK.out _ _ (HT.a.1) (fun hHeld => ?_); clear hK K; (try simp only [Act.put, List.setIfInBounds_toArray, List.set_cons_zero, List.set_cons_succ]))
  (refine held_call 7 rfl (by kernel_rfl) (fun K hK => ?_); go_simp)
  generalize okRu a.length b.length ⟨k, rh, who, ra, rb, via⟩ = ok at RT RN RY BD
  go_at_call 23; refine (RT.out _).mono ?_; rintro e wr ⟨rfl, hbq⟩
  have HT := HT.later hbq
  clear hbq RT
  (refine hK.out _ _ (HT.a.1) (fun hHeld => ?_); clear hK K; (try simp only [Act.put, List.setIfInBounds_toArray, List.set_cons_zero, List.set_cons_succ]))
  (refine held_yes (v := ?_) 8 rfl (by kernel_rfl) (by kernel_rfl) (by kernel_rfl) (fun _ _ _ h => h) (by rfl) (by assumption) ?_ ?_; rotate_left; (focus ((intro w hSw); (try dsimp only at hSw); go_simp; (try with_reducible rfl))); (try simp only [Act.put, List.setIfInBounds_toArray, List.set_cons_zero, List.set_cons_succ]))
  refine wpAnyH_done (by kernel_rfl) ?_ _
  have HT := Lib.hid HT
  cases ok with
  | false =>
    have R := Lib.hid (RN.out rfl)
    obtain ⟨cb, fb, zb⟩ := HT.out.b
    go_wp2
    refine bodyPost_ret (v := .tuple #[sv noS, .bool false]) (by simp [results, Try.results22, go_sem, noS, noR, cb]) rfl ⟨by rw [R.out], ?_⟩
    exact below_puts (by omega) [.int .i64 0, .string emp, .string emp, .string emp, .string emp, .string emp, .string emp, .string emp, .string emp] 0 wr HT.out.low
  | true =>
  have RZ := Lib.hid (RY.out rfl)
  obtain ⟨bh, b1, b2, b4, b3, bk⟩ := BD.out rfl
  have bh := Lib.hid bh
  have b1 := Lib.hid b1
  have b2 := Lib.hid b2
  have b3 := Lib.hid b3
  have b4 := Lib.hid b4
  have bk := Lib.hid bk
  clear BD RN RY
  have RH := Lib.hid (fun W hb => RO.out rh bh.out W hb)
  obtain ⟨xh, hxh⟩ : ∃ r, r = roleAt a b rh := ⟨_, rfl⟩
  rw [← hxh] at RH
  obtain ⟨x1, x2⟩ := xh
  have HRH := Lib.hid hxh
  clear hxh
  go_upto_region 4 with fail
  go_cut [6] (fun s6 wx => ∃ b6 : Nat, s6 = .pointer (some ⟨b6, 0, none⟩) ∧ w.heap.size + 1 < b6 ∧ Hid (TwoAt w #[.int .i64 k, .int .i64 rh, .int .i64 who, .int .i64 ra, .int .i64 rb, .int .i64 via] #[.int .i64 0, .string emp, .string emp, .string emp, .string emp, .string emp, .string emp, .string emp, .string emp] wx) ∧ Hid (Blk wx b6 #[.int .i64 k, .string x1, .string x2, .string emp, .string emp, .string emp, .string emp, .string emp, .string emp]))
  case first =>
    have HT := HT.out
    obtain ⟨ca, fa, za⟩ := HT.a
    go_wp2_with fail
    clear ca fa za
    refine wp_region_held_drew (S := (fun W => ∀ o, W.cell? ⟨w.heap.size, o, none⟩ = (#[.int .i64 k, .int .i64 rh, .int .i64 who, .int .i64 ra, .int .i64 rb, .int .i64 via] : Array Value)[o]?)) (by kernel_rfl) HT.drew.a.1 (fun hHeld => ?_)
    have HT := HT.drew
    obtain ⟨wk, hwk⟩ : ∃ W, W = wr.drew := ⟨_, rfl⟩
    rw [← hwk] at HT hHeld ⊢
    clear hwk
    (refine held_yes (v := ?_) 0 rfl (by kernel_rfl) (by kernel_rfl) (by kernel_rfl) (fun _ _ _ h => h) (by rfl) (by assumption) ?_ ?_; rotate_left; (focus ((intro w hSw); (try dsimp only at hSw); go_simp; (try with_reducible rfl))); (try simp only [Act.put, List.setIfInBounds_toArray, List.set_cons_zero, List.set_cons_succ])); (refine held_yes (v := ?_) 1 rfl (by kernel_rfl) (by kernel_rfl) (by kernel_rfl) (fun _ _ _ h => h) (by rfl) (by assumption) ?_ ?_; rotate_left; (focus ((intro w hSw); (try dsimp only at hSw); go_simp; (try with_reducible rfl))); (try simp only [Act.put, List.setIfInBounds_toArray, List.set_cons_zero, List.set_cons_succ])); (refine held_yes (v := ?_) 2 rfl (by kernel_rfl) (by kernel_rfl) (by kernel_rfl) (fun _ _ _ h => h) (by rfl) (by assumption) ?_ ?_; rotate_left; (focus ((intro w hSw); (try dsimp only at hSw); go_simp; (try with_reducible rfl))); (try simp only [Act.put, List.setIfInBounds_toArray, List.set_cons_zero, List.set_cons_succ])); (refine held_yes (v := ?_) 3 rfl (by kernel_rfl) (by kernel_rfl) (by kernel_rfl) (fun _ _ _ h => h) (by rfl) (by assumption) ?_ ?_; rotate_left; (focus ((intro w hSw); (try dsimp only at hSw); go_simp; (try with_reducible rfl))); (try simp only [Act.put, List.setIfInBounds_toArray, List.set_cons_zero, List.set_cons_succ])); (refine held_yes (v := ?_) 4 rfl (by kernel_rfl) (by kernel_rfl) (by kernel_rfl) (fun _ _ _ h => h) (by rfl) (by assumption) ?_ ?_; rotate_left; (focus ((intro w hSw); (try dsimp only at hSw); go_simp; (try with_reducible rfl))); (try simp only [Act.put, List.setIfInBounds_toArray, List.set_cons_zero, List.set_cons_succ]))
    refine wpAnyH_ready (rs := [5, 7]) (by kernel_rfl) (by simp) (AllReadyH.cons rfl (fun K hK => ?_) (AllReadyH.cons rfl (fun K hK => ?_) AllReadyH.nil))
    · go_simp
      go_at_call 19; refine (RH.out _ HT.low).mono ?_; rintro e wk1 ⟨rfl, hbq⟩
      have HT := HT.later hbq
      clear hbq
      (refine hK.out _ _ (HT.a.1) (fun hHeld => ?_); clear hK K; (try simp only [Act.put, List.setIfInBounds_toArray, List.set_cons_zero, List.set_cons_succ]))
      (refine held_yes (v := ?_) 6 rfl (by kernel_rfl) (by kernel_rfl) (by kernel_rfl) (fun _ _ _ h => h) (by rfl) (by assumption) ?_ ?_; rotate_left; (focus ((intro w hSw); (try dsimp only at hSw); go_simp; (try with_reducible rfl))); (try simp only [Act.put, List.setIfInBounds_toArray, List.set_cons_zero, List.set_cons_succ]))
      (refine held_call 7 rfl (by kernel_rfl) (fun K hK => ?_); go_simp)
      obtain ⟨b6, hb6⟩ : ∃ b, b = wk1.heap.size := ⟨_, rfl⟩
      obtain ⟨wk2, hwn⟩ : ∃ V, V = wk1.alloc (.cells #[.int .i64 0, .string emp, .string emp, .string emp, .string emp, .string emp, .string emp, .string emp, .string emp] 26) := ⟨_, rfl⟩
      rw [← hwn, ← hb6]
      have H6 : Blk wk2 b6 #[.int .i64 0, .string emp, .string emp, .string emp, .string emp, .string emp, .string emp, .string emp, .string emp] := by rw [hwn, hb6]; exact Blk.new _ _ _
      have lo6 : w.heap.size + 1 < b6 := by rw [hb6]; exact HT.b.2.2
      have HT : TwoAt w #[.int .i64 k, .int .i64 rh, .int .i64 who, .int .i64 ra, .int .i64 rb, .int .i64 via] #[.int .i64 0, .string emp, .string emp, .string emp, .string emp, .string emp, .string emp, .string emp, .string emp] wk2 := by rw [hwn]; exact HT.alloc _
      clear hwn hb6
      (refine hK.out _ _ (HT.a.1) (fun hHeld => ?_); clear hK K; (try simp only [Act.put, List.setIfInBounds_toArray, List.set_cons_zero, List.set_cons_succ]))
      have Hc := H6
      obtain ⟨cs, fs, zs⟩ := Hc
      (refine held_call 8 rfl (by kernel_rfl) (fun K hK => ?_); go_simp)
      clear cs fs zs
      generalize hw : (((((((((wk2.setCell ⟨b6, 0, none⟩ (.int .i64 k)).setCell ⟨b6, 1, none⟩ (.string x1)).setCell ⟨b6, 2, none⟩ (.string x2)).setCell ⟨b6, 3, none⟩ (.string emp)).setCell ⟨b6, 4, none⟩ (.string emp)).setCell ⟨b6, 5, none⟩ (.string emp)).setCell ⟨b6, 6, none⟩ (.string emp)).setCell ⟨b6, 7, none⟩ (.string emp)).setCell ⟨b6, 8, none⟩ (.string emp)) = wn
      have H6 : Blk wn b6 #[.int .i64 k, .string x1, .string x2, .string emp, .string emp, .string emp, .string emp, .string emp, .string emp] := by rw [← hw]; simpa using (((((((((H6.put (o := 0) (v := .int .i64 k) (by simp)).put (o := 1) (v := .string x1) (by simp)).put (o := 2) (v := .string x2) (by simp)).put (o := 3) (v := .string emp) (by simp)).put (o := 4) (v := .string emp) (by simp)).put (o := 5) (v := .string emp) (by simp)).put (o := 6) (v := .string emp) (by simp)).put (o := 7) (v := .string emp) (by simp)).put (o := 8) (v := .string emp) (by simp))
      have HT : TwoAt w #[.int .i64 k, .int .i64 rh, .int .i64 who, .int .i64 ra, .int .i64 rb, .int .i64 via] #[.int .i64 0, .string emp, .string emp, .string emp, .string emp, .string emp, .string emp, .string emp, .string emp] wn := by
        rw [← hw]
        exact ⟨HT.a.puts_far (g := b6) (by omega) [.int .i64 k, .string x1, .string x2, .string emp, .string emp, .string emp, .string emp, .string emp, .string emp] 0 wk2, HT.b.puts_far (g := b6) (by omega) [.int .i64 k, .string x1, .string x2, .string emp, .string emp, .string emp, .string emp, .string emp, .string emp] 0 wk2, below_puts (by omega) [.int .i64 k, .string x1, .string x2, .string emp, .string emp, .string emp, .string emp, .string emp, .string emp] 0 wk2 HT.low⟩
      clear hw
      (refine hK.out _ _ (HT.a.1) (fun hHeld => ?_); clear hK K; (try simp only [Act.put, List.setIfInBounds_toArray, List.set_cons_zero, List.set_cons_succ]))
      refine wpAnyH_done (by kernel_rfl) ?_ _
      go_wp2_with fail
      go_meet
      exact ⟨b6, rfl, lo6, Lib.hid HT, Lib.hid H6⟩
    · go_simp
      obtain ⟨b6, hb6⟩ : ∃ b, b = wk.heap.size := ⟨_, rfl⟩
      obtain ⟨wk1, hwn⟩ : ∃ V, V = wk.alloc (.cells #[.int .i64 0, .string emp, .string emp, .string emp, .string emp, .string emp, .string emp, .string emp, .string emp] 26) := ⟨_, rfl⟩
      rw [← hwn, ← hb6]
      have H6 : Blk wk1 b6 #[.int .i64 0, .string emp, .string emp, .string emp, .string emp, .string emp, .string emp, .string emp, .string emp] := by rw [hwn, hb6]; exact Blk.new _ _ _
      have lo6 : w.heap.size + 1 < b6 := by rw [hb6]; exact HT.b.2.2
      have HT : TwoAt w #[.int .i64 k, .int .i64 rh, .int .i64 who, .int .i64 ra, .int .i64 rb, .int .i64 via] #[.int .i64 0, .string emp, .string emp, .string emp, .string emp, .string emp, .string emp, .string emp, .string emp] wk1 := by rw [hwn]; exact HT.alloc _
      clear hwn hb6
      (refine hK.out _ _ (HT.a.1) (fun hHeld => ?_); clear hK K; (try simp only [Act.put, List.setIfInBounds_toArray, List.set_cons_zero, List.set_cons_succ]))
      (refine held_call 5 rfl (by kernel_rfl) (fun K hK => ?_); go_simp)
      go_at_call 19; refine (RH.out _ HT.low).mono ?_; rintro e wk2 ⟨rfl, hbq⟩
      have H6 := H6.below hbq
      have HT := HT.later hbq
      clear hbq
      (refine hK.out _ _ (HT.a.1) (fun hHeld => ?_); clear hK K; (try simp only [Act.put, List.setIfInBounds_toArray, List.set_cons_zero, List.set_cons_succ]))
      (refine held_yes (v := ?_) 6 rfl (by kernel_rfl) (by kernel_rfl) (by kernel_rfl) (fun _ _ _ h => h) (by rfl) (by assumption) ?_ ?_; rotate_left; (focus ((intro w hSw); (try dsimp only at hSw); go_simp; (try with_reducible rfl))); (try simp only [Act.put, List.setIfInBounds_toArray, List.set_cons_zero, List.set_cons_succ]))
      have Hc := H6
      obtain ⟨cs, fs, zs⟩ := Hc
      (refine held_call 8 rfl (by kernel_rfl) (fun K hK => ?_); go_simp)
      clear cs fs zs
      generalize hw : (((((((((wk2.setCell ⟨b6, 0, none⟩ (.int .i64 k)).setCell ⟨b6, 1, none⟩ (.string x1)).setCell ⟨b6, 2, none⟩ (.string x2)).setCell ⟨b6, 3, none⟩ (.string emp)).setCell ⟨b6, 4, none⟩ (.string emp)).setCell ⟨b6, 5, none⟩ (.string emp)).setCell ⟨b6, 6, none⟩ (.string emp)).setCell ⟨b6, 7, none⟩ (.string emp)).setCell ⟨b6, 8, none⟩ (.string emp)) = wn
      have H6 : Blk wn b6 #[.int .i64 k, .string x1, .string x2, .string emp, .string emp, .string emp, .string emp, .string emp, .string emp] := by rw [← hw]; simpa using (((((((((H6.put (o := 0) (v := .int .i64 k) (by simp)).put (o := 1) (v := .string x1) (by simp)).put (o := 2) (v := .string x2) (by simp)).put (o := 3) (v := .string emp) (by simp)).put (o := 4) (v := .string emp) (by simp)).put (o := 5) (v := .string emp) (by simp)).put (o := 6) (v := .string emp) (by simp)).put (o := 7) (v := .string emp) (by simp)).put (o := 8) (v := .string emp) (by simp))
      have HT : TwoAt w #[.int .i64 k, .int .i64 rh, .int .i64 who, .int .i64 ra, .int .i64 rb, .int .i64 via] #[.int .i64 0, .string emp, .string emp, .string emp, .string emp, .string emp, .string emp, .string emp, .string emp] wn := by
        rw [← hw]
        exact ⟨HT.a.puts_far (g := b6) (by omega) [.int .i64 k, .string x1, .string x2, .string emp, .string emp, .string emp, .string emp, .string emp, .string emp] 0 wk2, HT.b.puts_far (g := b6) (by omega) [.int .i64 k, .string x1, .string x2, .string emp, .string emp, .string emp, .string emp, .string emp, .string emp] 0 wk2, below_puts (by omega) [.int .i64 k, .string x1, .string x2, .string emp, .string emp, .string emp, .string emp, .string emp, .string emp] 0 wk2 HT.low⟩
      clear hw
      (refine hK.out _ _ (HT.a.1) (fun hHeld => ?_); clear hK K; (try simp only [Act.put, List.setIfInBounds_toArray, List.set_cons_zero, List.set_cons_succ]))
      refine wpAnyH_done (by kernel_rfl) ?_ _
      go_wp2_with fail
      go_meet
      exact ⟨b6, rfl, lo6, Lib.hid HT, Lib.hid H6⟩
  case rest =>
    clear HT RH
    obtain ⟨b6, rfl, lo6, HT, H6⟩ := hcut
    rename World => wc
    have HT := HT.out
    have H6 := H6.out
    by_cases hk : k = 1
    · skip
      subst hk
      obtain ⟨ca, fa, za⟩ := HT.a
      go_wp2_with fail
      clear ca fa za
      have b1' := Lib.hid (b1.out (by simp))
      have FW := Lib.hid (fun W hb => FA.out who b1'.out W hb)
      have RV : stmtR a b ⟨1, rh, who, ra, rb, via⟩ = ⟨1, ⟨x1, x2⟩, atB a who, ⟨emp, emp⟩, ⟨emp, emp⟩, emp⟩ := by unfold stmtR; simp [← HRH.out, noR]
      generalize atB a who = pw at RV FW
      refine wp_region_held_drew (S := (fun W => ∀ o, W.cell? ⟨w.heap.size, o, none⟩ = (#[.int .i64 1, .int .i64 rh, .int .i64 who, .int .i64 ra, .int .i64 rb, .int .i64 via] : Array Value)[o]?)) (by kernel_rfl) HT.drew.a.1 (fun hHeld => ?_)
      have HT := HT.drew
      have H6 := H6.below (below_drew (Below.refl _ _))
      obtain ⟨wk, hwk⟩ : ∃ W, W = wc.drew := ⟨_, rfl⟩
      rw [← hwk] at HT H6 hHeld ⊢
      clear hwk
      (refine held_yes (v := ?_) 0 rfl (by kernel_rfl) (by kernel_rfl) (by kernel_rfl) (fun _ _ _ h => h) (by rfl) (by assumption) ?_ ?_; rotate_left; (focus ((intro w hSw); (try dsimp only at hSw); go_simp; (try with_reducible rfl))); (try simp only [Act.put, List.setIfInBounds_toArray, List.set_cons_zero, List.set_cons_succ])); (refine held_yes (v := ?_) 2 rfl (by kernel_rfl) (by kernel_rfl) (by kernel_rfl) (fun _ _ _ h => h) (by rfl) (by assumption) ?_ ?_; rotate_left; (focus ((intro w hSw); (try dsimp only at hSw); go_simp; (try with_reducible rfl))); (try simp only [Act.put, List.setIfInBounds_toArray, List.set_cons_zero, List.set_cons_succ])); (refine held_yes (v := ?_) 3 rfl (by kernel_rfl) (by kernel_rfl) (by kernel_rfl) (fun _ _ _ h => h) (by rfl) (by assumption) ?_ ?_; rotate_left; (focus ((intro w hSw); (try dsimp only at hSw); go_simp; (try with_reducible rfl))); (try simp only [Act.put, List.setIfInBounds_toArray, List.set_cons_zero, List.set_cons_succ]))
      (refine held_call 1 rfl (by kernel_rfl) (fun K hK => ?_); go_simp)
      go_at_call 16; refine (PR.out _ HT.low).mono ?_; rintro e wq ⟨rfl, rfl⟩
      (refine hK.out _ _ (HT.a.1) (fun hHeld => ?_); clear hK K; (try simp only [Act.put, List.setIfInBounds_toArray, List.set_cons_zero, List.set_cons_succ]))
      (refine held_call 4 rfl (by kernel_rfl) (fun K hK => ?_); go_simp)
      go_at_call 38; refine (FW.out _ HT.low).mono ?_; rintro e wq ⟨rfl, rfl⟩
      (refine hK.out _ _ (HT.a.1) (fun hHeld => ?_); clear hK K; (try simp only [Act.put, List.setIfInBounds_toArray, List.set_cons_zero, List.set_cons_succ]))
      (refine held_yes (v := ?_) 5 rfl (by kernel_rfl) (by kernel_rfl) (by kernel_rfl) (fun _ _ _ h => h) (by rfl) (by assumption) ?_ ?_; rotate_left; (focus ((intro w hSw); (try dsimp only at hSw); go_simp; (try with_reducible rfl))); (try simp only [Act.put, List.setIfInBounds_toArray, List.set_cons_zero, List.set_cons_succ]))
      have Hc := H6
      obtain ⟨cs, fs, zs⟩ := Hc
      (refine held_call 6 rfl (by kernel_rfl) (fun K hK => ?_); go_simp)
      clear cs fs zs
      generalize hw : (wq.setCell ⟨b6, 3, none⟩ (.string pw)) = wp1
      have H6 : Blk wp1 b6 #[.int .i64 1, .string x1, .string x2, .string pw, .string emp, .string emp, .string emp, .string emp, .string emp] := by rw [← hw]; simpa using (H6.put (o := 3) (v := .string pw) (by simp))
      have HT : TwoAt w #[.int .i64 1, .int .i64 rh, .int .i64 who, .int .i64 ra, .int .i64 rb, .int .i64 via] #[.int .i64 0, .string emp, .string emp, .string emp, .string emp, .string emp, .string emp, .string emp, .string emp] wp1 := by rw [← hw]; exact ⟨(HT.a.far (by omega)), (HT.b.far (by omega)), (below_put HT.low (by omega))⟩
      clear hw
      (refine hK.out _ _ (HT.a.1) (fun hHeld => ?_); clear hK K; (try simp only [Act.put, List.setIfInBounds_toArray, List.set_cons_zero, List.set_cons_succ]))
      refine wpAnyH_done (by kernel_rfl) ?_ _
      have NO := Lib.hid (fun W => syn_Normal ⟨1, ⟨x1, x2⟩, pw, ⟨emp, emp⟩, ⟨emp, emp⟩, emp⟩ W)
      rw [RV] at RZ
      generalize normalS ⟨1, ⟨x1, x2⟩, pw, ⟨emp, emp⟩, ⟨emp, emp⟩, emp⟩ = nv at NO RZ
      obtain ⟨m0, ⟨m1, m2⟩, m3, ⟨m4, m5⟩, ⟨m6, m7⟩, m8⟩ := nv
      have RV := Lib.hid RV
      have Hc := H6
      obtain ⟨cs, fs, zs⟩ := Hc
      obtain ⟨ca, fa, za⟩ := HT.a
      go_wp2_with fail
      refine (NO.out _).mono ?_
      rintro e wn ⟨rfl, hb⟩
      have HT := HT.later hb
      clear hb cs fs zs ca fa za
      obtain ⟨cb, fb, zb⟩ := HT.b
      have HT := Lib.hid HT
      go_wp2
      refine bodyPost_ret (v := .tuple #[sv ⟨m0, ⟨m1, m2⟩, m3, ⟨m4, m5⟩, ⟨m6, m7⟩, m8⟩, .bool true]) (by simp [results, Try.results22, go_sem, cb]) rfl ⟨by rw [RZ.out], ?_⟩
      exact below_puts (by omega) [.int .i64 m0, .string m1, .string m2, .string m3, .string m4, .string m5, .string m6, .string m7, .string m8] 0 wn HT.out.low
    have n1 := hk
    clear hk
    by_cases hk : k = 2
    · skip
      subst hk
      obtain ⟨ca, fa, za⟩ := HT.a
      go_wp2_with fail
      clear ca fa za
      have b2' := Lib.hid (b2.out (by simp))
      have RA := Lib.hid (fun W hb => RO.out ra b2'.out W hb)
      have RV : stmtR a b ⟨2, rh, who, ra, rb, via⟩ = ⟨2, ⟨x1, x2⟩, emp, roleAt a b ra, ⟨emp, emp⟩, emp⟩ := by unfold stmtR; simp [← HRH.out, noR]
      generalize roleAt a b ra = yr at RV RA
      obtain ⟨y1, y2⟩ := yr
      refine (RA.out _ HT.low).mono ?_
      rintro e wq2 ⟨rfl, hb⟩
      have HT := HT.later hb
      have H6 := H6.below hb
      clear hb
      have Hc := H6
      obtain ⟨cs, fs, zs⟩ := Hc
      obtain ⟨ca, fa, za⟩ := HT.a
      go_upto_region 13 with fail
      clear cs fs zs ca fa za
      generalize hw : ((wq2.setCell ⟨b6, 4, none⟩ (.string y1)).setCell ⟨b6, 5, none⟩ (.string y2)) = wp2
      have H6 : Blk wp2 b6 #[.int .i64 2, .string x1, .string x2, .string emp, .string y1, .string y2, .string emp, .string emp, .string emp] := by rw [← hw]; simpa using ((H6.put (o := 4) (v := .string y1) (by simp)).put (o := 5) (v := .string y2) (by simp))
      have HT : TwoAt w #[.int .i64 2, .int .i64 rh, .int .i64 who, .int .i64 ra, .int .i64 rb, .int .i64 via] #[.int .i64 0, .string emp, .string emp, .string emp, .string emp, .string emp, .string emp, .string emp, .string emp] wp2 := by rw [← hw]; exact ⟨((HT.a.far (by omega)).far (by omega)), ((HT.b.far (by omega)).far (by omega)), (below_put (below_put HT.low (by omega)) (by omega))⟩
      clear hw
      have NO := Lib.hid (fun W => syn_Normal ⟨2, ⟨x1, x2⟩, emp, ⟨y1, y2⟩, ⟨emp, emp⟩, emp⟩ W)
      rw [RV] at RZ
      generalize normalS ⟨2, ⟨x1, x2⟩, emp, ⟨y1, y2⟩, ⟨emp, emp⟩, emp⟩ = nv at NO RZ
      obtain ⟨m0, ⟨m1, m2⟩, m3, ⟨m4, m5⟩, ⟨m6, m7⟩, m8⟩ := nv
      have RV := Lib.hid RV
      have Hc := H6
      obtain ⟨cs, fs, zs⟩ := Hc
      obtain ⟨ca, fa, za⟩ := HT.a
      go_wp2_with fail
      refine (NO.out _).mono ?_
      rintro e wn ⟨rfl, hb⟩
      have HT := HT.later hb
      clear hb cs fs zs ca fa za
      obtain ⟨cb, fb, zb⟩ := HT.b
      have HT := Lib.hid HT
      go_wp2
      refine bodyPost_ret (v := .tuple #[sv ⟨m0, ⟨m1, m2⟩, m3, ⟨m4, m5⟩, ⟨m6, m7⟩, m8⟩, .bool true]) (by simp [results, Try.results22, go_sem, cb]) rfl ⟨by rw [RZ.out], ?_⟩
      exact below_puts (by omega) [.int .i64 m0, .string m1, .string m2, .string m3, .string m4, .string m5, .string m6, .string m7, .string m8] 0 wn HT.out.low
    have n2 := hk
    clear hk
    by_cases hk : k = 3
    · skip
      subst hk
      obtain ⟨ca, fa, za⟩ := HT.a
      go_wp2_with fail
      clear ca fa za
      have b2' := Lib.hid (b2.out (by simp))
      have RA := Lib.hid (fun W hb => RO.out ra b2'.out W hb)
      have b3' := Lib.hid (b3.out (by simp))
      have FV := Lib.hid (fun W hb => FB.out via b3'.out W hb)
      have RV : stmtR a b ⟨3, rh, who, ra, rb, via⟩ = ⟨3, ⟨x1, x2⟩, emp, roleAt a b ra, ⟨emp, emp⟩, atB b via⟩ := by unfold stmtR; simp [← HRH.out, noR]
      generalize atB b via = pv at RV FV
      generalize roleAt a b ra = yr at RV RA
      obtain ⟨y1, y2⟩ := yr
      refine wp_region_held_drew (S := (fun W => ∀ o, W.cell? ⟨w.heap.size, o, none⟩ = (#[.int .i64 3, .int .i64 rh, .int .i64 who, .int .i64 ra, .int .i64 rb, .int .i64 via] : Array Value)[o]?)) (by kernel_rfl) HT.drew.a.1 (fun hHeld => ?_)
      have HT := HT.drew
      have H6 := H6.below (below_drew (Below.refl _ _))
      obtain ⟨wk, hwk⟩ : ∃ W, W = wc.drew := ⟨_, rfl⟩
      rw [← hwk] at HT H6 hHeld ⊢
      clear hwk
      (refine held_yes (v := ?_) 0 rfl (by kernel_rfl) (by kernel_rfl) (by kernel_rfl) (fun _ _ _ h => h) (by rfl) (by assumption) ?_ ?_; rotate_left; (focus ((intro w hSw); (try dsimp only at hSw); go_simp; (try with_reducible rfl))); (try simp only [Act.put, List.setIfInBounds_toArray, List.set_cons_zero, List.set_cons_succ])); (refine held_yes (v := ?_) 1 rfl (by kernel_rfl) (by kernel_rfl) (by kernel_rfl) (fun _ _ _ h => h) (by rfl) (by assumption) ?_ ?_; rotate_left; (focus ((intro w hSw); (try dsimp only at hSw); go_simp; (try with_reducible rfl))); (try simp only [Act.put, List.setIfInBounds_toArray, List.set_cons_zero, List.set_cons_succ])); (refine held_yes (v := ?_) 2 rfl (by kernel_rfl) (by kernel_rfl) (by kernel_rfl) (fun _ _ _ h => h) (by rfl) (by assumption) ?_ ?_; rotate_left; (focus ((intro w hSw); (try dsimp only at hSw); go_simp; (try with_reducible rfl))); (try simp only [Act.put, List.setIfInBounds_toArray, List.set_cons_zero, List.set_cons_succ])); (refine held_yes (v := ?_) 4 rfl (by kernel_rfl) (by kernel_rfl) (by kernel_rfl) (fun _ _ _ h => h) (by rfl) (by assumption) ?_ ?_; rotate_left; (focus ((intro w hSw); (try dsimp only at hSw); go_simp; (try with_reducible rfl))); (try simp only [Act.put, List.setIfInBounds_toArray, List.set_cons_zero, List.set_cons_succ])); (refine held_yes (v := ?_) 6 rfl (by kernel_rfl) (by kernel_rfl) (by kernel_rfl) (fun _ _ _ h => h) (by rfl) (by assumption) ?_ ?_; rotate_left; (focus ((intro w hSw); (try dsimp only at hSw); go_simp; (try with_reducible rfl))); (try simp only [Act.put, List.setIfInBounds_toArray, List.set_cons_zero, List.set_cons_succ])); (refine held_yes (v := ?_) 7 rfl (by kernel_rfl) (by kernel_rfl) (by kernel_rfl) (fun _ _ _ h => h) (by rfl) (by assumption) ?_ ?_; rotate_left; (focus ((intro w hSw); (try dsimp only at hSw); go_simp; (try with_reducible rfl))); (try simp only [Act.put, List.setIfInBounds_toArray, List.set_cons_zero, List.set_cons_succ]))
      (refine held_call 3 rfl (by kernel_rfl) (fun K hK => ?_); go_simp)
      go_at_call 19; refine (RA.out _ HT.low).mono ?_; rintro e wq ⟨rfl, hbq⟩; have H6 := H6.below hbq; have HT := HT.later hbq; clear hbq
      (refine hK.out _ _ (HT.a.1) (fun hHeld => ?_); clear hK K; (try simp only [Act.put, List.setIfInBounds_toArray, List.set_cons_zero, List.set_cons_succ]))
      (refine held_yes (v := ?_) 9 rfl (by kernel_rfl) (by kernel_rfl) (by kernel_rfl) (fun _ _ _ h => h) (by rfl) (by assumption) ?_ ?_; rotate_left; (focus ((intro w hSw); (try dsimp only at hSw); go_simp; (try with_reducible rfl))); (try simp only [Act.put, List.setIfInBounds_toArray, List.set_cons_zero, List.set_cons_succ]))
      (refine held_call 5 rfl (by kernel_rfl) (fun K hK => ?_); go_simp)
      go_at_call 18; refine (LK.out _ HT.low).mono ?_; rintro e wq2 ⟨rfl, rfl⟩
      (refine hK.out _ _ (HT.a.1) (fun hHeld => ?_); clear hK K; (try simp only [Act.put, List.setIfInBounds_toArray, List.set_cons_zero, List.set_cons_succ]))
      (refine held_call 8 rfl (by kernel_rfl) (fun K hK => ?_); go_simp)
      go_at_call 38; refine (FV.out _ HT.low).mono ?_; rintro e wq3 ⟨rfl, rfl⟩
      (refine hK.out _ _ (HT.a.1) (fun hHeld => ?_); clear hK K; (try simp only [Act.put, List.setIfInBounds_toArray, List.set_cons_zero, List.set_cons_succ]))
      have Hc := H6
      obtain ⟨cs, fs, zs⟩ := Hc
      (refine held_call 10 rfl (by kernel_rfl) (fun K hK => ?_); go_simp)
      clear cs fs zs
      generalize hw : ((wq3.setCell ⟨b6, 4, none⟩ (.string y1)).setCell ⟨b6, 5, none⟩ (.string y2)) = wp3
      have H6 : Blk wp3 b6 #[.int .i64 3, .string x1, .string x2, .string emp, .string y1, .string y2, .string emp, .string emp, .string emp] := by rw [← hw]; simpa using ((H6.put (o := 4) (v := .string y1) (by simp)).put (o := 5) (v := .string y2) (by simp))
      have HT : TwoAt w #[.int .i64 3, .int .i64 rh, .int .i64 who, .int .i64 ra, .int .i64 rb, .int .i64 via] #[.int .i64 0, .string emp, .string emp, .string emp, .string emp, .string emp, .string emp, .string emp, .string emp] wp3 := by rw [← hw]; exact ⟨((HT.a.far (by omega)).far (by omega)), ((HT.b.far (by omega)).far (by omega)), (below_put (below_put HT.low (by omega)) (by omega))⟩
      clear hw
      (refine hK.out _ _ (HT.a.1) (fun hHeld => ?_); clear hK K; (try simp only [Act.put, List.setIfInBounds_toArray, List.set_cons_zero, List.set_cons_succ]))
      (refine held_yes (v := ?_) 11 rfl (by kernel_rfl) (by kernel_rfl) (by kernel_rfl) (fun _ _ _ h => h) (by rfl) (by assumption) ?_ ?_; rotate_left; (focus ((intro w hSw); (try dsimp only at hSw); go_simp; (try with_reducible rfl))); (try simp only [Act.put, List.setIfInBounds_toArray, List.set_cons_zero, List.set_cons_succ]))
      have Hc := H6
      obtain ⟨cs, fs, zs⟩ := Hc
      (refine held_call 12 rfl (by kernel_rfl) (fun K hK => ?_); go_simp)
      clear cs fs zs
      generalize hw : (wp3.setCell ⟨b6, 8, none⟩ (.string pv)) = wp4
      have H6 : Blk wp4 b6 #[.int .i64 3, .string x1, .string x2, .string emp, .string y1, .string y2, .string emp, .string emp, .string pv] := by rw [← hw]; simpa using (H6.put (o := 8) (v := .string pv) (by simp))
      have HT : TwoAt w #[.int .i64 3, .int .i64 rh, .int .i64 who, .int .i64 ra, .int .i64 rb, .int .i64 via] #[.int .i64 0, .string emp, .string emp, .string emp, .string emp, .string emp, .string emp, .string emp, .string emp] wp4 := by rw [← hw]; exact ⟨(HT.a.far (by omega)), (HT.b.far (by omega)), (below_put HT.low (by omega))⟩
      clear hw
      (refine hK.out _ _ (HT.a.1) (fun hHeld => ?_); clear hK K; (try simp only [Act.put, List.setIfInBounds_toArray, List.set_cons_zero, List.set_cons_succ]))
      refine wpAnyH_done (by kernel_rfl) ?_ _
      have NO := Lib.hid (fun W => syn_Normal ⟨3, ⟨x1, x2⟩, emp, ⟨y1, y2⟩, ⟨emp, emp⟩, pv⟩ W)
      rw [RV] at RZ
      generalize normalS ⟨3, ⟨x1, x2⟩, emp, ⟨y1, y2⟩, ⟨emp, emp⟩, pv⟩ = nv at NO RZ
      obtain ⟨m0, ⟨m1, m2⟩, m3, ⟨m4, m5⟩, ⟨m6, m7⟩, m8⟩ := nv
      have RV := Lib.hid RV
      have Hc := H6
      obtain ⟨cs, fs, zs⟩ := Hc
      obtain ⟨ca, fa, za⟩ := HT.a
      go_wp2_with fail
      refine (NO.out _).mono ?_
      rintro e wn ⟨rfl, hb⟩
      have HT := HT.later hb
      clear hb cs fs zs ca fa za
      obtain ⟨cb, fb, zb⟩ := HT.b
      have HT := Lib.hid HT
      go_wp2
      refine bodyPost_ret (v := .tuple #[sv ⟨m0, ⟨m1, m2⟩, m3, ⟨m4, m5⟩, ⟨m6, m7⟩, m8⟩, .bool true]) (by simp [results, Try.results22, go_sem, cb]) rfl ⟨by rw [RZ.out], ?_⟩
      exact below_puts (by omega) [.int .i64 m0, .string m1, .string m2, .string m3, .string m4, .string m5, .string m6, .string m7, .string m8] 0 wn HT.out.low
    have n3 := hk
    clear hk
    by_cases hk : k = 4
    · skip
      subst hk
      obtain ⟨ca, fa, za⟩ := HT.a
      go_wp2_with fail
      clear ca fa za
      have b2' := Lib.hid (b2.out (by simp))
      have RA := Lib.hid (fun W hb => RO.out ra b2'.out W hb)
      have b4' := Lib.hid (b4.out (by simp))
      have RB := Lib.hid (fun W hb => RO.out rb b4'.out W hb)
      have RV : stmtR a b ⟨4, rh, who, ra, rb, via⟩ = ⟨4, ⟨x1, x2⟩, emp, roleAt a b ra, roleAt a b rb, emp⟩ := by unfold stmtR; simp [← HRH.out]
      generalize roleAt a b rb = zr at RV RB
      obtain ⟨z1, z2⟩ := zr
      generalize roleAt a b ra = yr at RV RA
      obtain ⟨y1, y2⟩ := yr
      refine (RB.out _ HT.low).mono ?_
      rintro e wq ⟨rfl, hb⟩
      have HT := HT.later hb
      have H6 := H6.below hb
      clear hb
      have Hc := H6
      obtain ⟨cs, fs, zs⟩ := Hc
      obtain ⟨ca, fa, za⟩ := HT.a
      go_upto_region 11 with fail
      clear cs fs zs ca fa za
      generalize hw : ((wq.setCell ⟨b6, 6, none⟩ (.string z1)).setCell ⟨b6, 7, none⟩ (.string z2)) = wp5
      have H6 : Blk wp5 b6 #[.int .i64 4, .string x1, .string x2, .string emp, .string emp, .string emp, .string z1, .string z2, .string emp] := by rw [← hw]; simpa using ((H6.put (o := 6) (v := .string z1) (by simp)).put (o := 7) (v := .string z2) (by simp))
      have HT : TwoAt w #[.int .i64 4, .int .i64 rh, .int .i64 who, .int .i64 ra, .int .i64 rb, .int .i64 via] #[.int .i64 0, .string emp, .string emp, .string emp, .string emp, .string emp, .string emp, .string emp, .string emp] wp5 := by rw [← hw]; exact ⟨((HT.a.far (by omega)).far (by omega)), ((HT.b.far (by omega)).far (by omega)), (below_put (below_put HT.low (by omega)) (by omega))⟩
      clear hw
      obtain ⟨ca, fa, za⟩ := HT.a
      go_wp2_with fail
      clear ca fa za
      refine (RA.out _ HT.low).mono ?_
      rintro e wq2 ⟨rfl, hb⟩
      have HT := HT.later hb
      have H6 := H6.below hb
      clear hb
      have Hc := H6
      obtain ⟨cs, fs, zs⟩ := Hc
      obtain ⟨ca, fa, za⟩ := HT.a
      go_upto_region 13 with fail
      clear cs fs zs ca fa za
      generalize hw : ((wq2.setCell ⟨b6, 4, none⟩ (.string y1)).setCell ⟨b6, 5, none⟩ (.string y2)) = wp6
      have H6 : Blk wp6 b6 #[.int .i64 4, .string x1, .string x2, .string emp, .string y1, .string y2, .string z1, .string z2, .string emp] := by rw [← hw]; simpa using ((H6.put (o := 4) (v := .string y1) (by simp)).put (o := 5) (v := .string y2) (by simp))
      have HT : TwoAt w #[.int .i64 4, .int .i64 rh, .int .i64 who, .int .i64 ra, .int .i64 rb, .int .i64 via] #[.int .i64 0, .string emp, .string emp, .string emp, .string emp, .string emp, .string emp, .string emp, .string emp] wp6 := by rw [← hw]; exact ⟨((HT.a.far (by omega)).far (by omega)), ((HT.b.far (by omega)).far (by omega)), (below_put (below_put HT.low (by omega)) (by omega))⟩
      clear hw
      have NO := Lib.hid (fun W => syn_Normal ⟨4, ⟨x1, x2⟩, emp, ⟨y1, y2⟩, ⟨z1, z2⟩, emp⟩ W)
      rw [RV] at RZ
      generalize normalS ⟨4, ⟨x1, x2⟩, emp, ⟨y1, y2⟩, ⟨z1, z2⟩, emp⟩ = nv at NO RZ
      obtain ⟨m0, ⟨m1, m2⟩, m3, ⟨m4, m5⟩, ⟨m6, m7⟩, m8⟩ := nv
      have RV := Lib.hid RV
      have Hc := H6
      obtain ⟨cs, fs, zs⟩ := Hc
      obtain ⟨ca, fa, za⟩ := HT.a
      go_wp2_with fail
      refine (NO.out _).mono ?_
      rintro e wn ⟨rfl, hb⟩
      have HT := HT.later hb
      clear hb cs fs zs ca fa za
      obtain ⟨cb, fb, zb⟩ := HT.b
      have HT := Lib.hid HT
      go_wp2
      refine bodyPost_ret (v := .tuple #[sv ⟨m0, ⟨m1, m2⟩, m3, ⟨m4, m5⟩, ⟨m6, m7⟩, m8⟩, .bool true]) (by simp [results, Try.results22, go_sem, cb]) rfl ⟨by rw [RZ.out], ?_⟩
      exact below_puts (by omega) [.int .i64 m0, .string m1, .string m2, .string m3, .string m4, .string m5, .string m6, .string m7, .string m8] 0 wn HT.out.low
    have hb := bk.out
    exact absurd hb (by simp [n1, n2, n3, hk])
end Go.Proofs.Ythickpocfplcoaa
