/- cost.power, of, made, Bound, States, Spent (printed by gen_cost.py). crupperlaw13.lives. crupperlaw29.lives. crupperref13.Satisfies, In: as walks (printed by gen_ref13.py). Light of texts, told whole. Light of queries and policies, with the lengths of the queries' roles (turned by gen_lights.py). crupperlaw13.Small. The statement CostTells: the walk of the law (printed by gen_law29t.py). -/
import Derived.Test.YtcmdhfccdkjenaaGreatDoorPart12
import Derived.Test.YtcmdhfccdkjenaaGreatDoorPart11
import Derived.Test.YtcmdhfccdkjenaaGreatDoorPart5
namespace Go.Proofs.YtcmdhfccdkjenaaGreatDoor
open Go.RowKit Go.Shelf

/-- How many statements may be made. -/
def madeN (a r : Nat) : Nat := (a + 1) * (a + 1) * r
/-- The bound of a query. -/
def costN (a r n : Nat) : Nat := 4 * ((a + 2) * (a + 2) * (a + 2)) * ((r + 1) * (r + 1)) * (n + 1 + madeN a r)
theorem madeN_le {a r : Nat} (ha : a ≤ 16) (hr : r ≤ 12) : madeN a r ≤ 17 * 17 * 12 := Nat.mul_le_mul (Nat.mul_le_mul (by omega) (by omega)) hr
set_option maxRecDepth 100000 in
set_option maxHeartbeats 2000000 in
theorem cost_power (n t : Nat) (w : World) (hn : 1 ≤ n) (hB : n ^ t ≤ 1000000000000) (ht : t ≤ 100) : Calls Tryz.prog 110 #[.int .i64 n, .int .i64 t] w fun e w' => e = .returned (.int .i64 (n ^ t : Nat)) ∧ w' = w := by
  have HN := Lib.hid hn
  have HB := Lib.hid hB
  obtain ⟨res, hres⟩ : ∃ r, r = n ^ t := ⟨_, rfl⟩
  rw [← hres]
  have HR := Lib.hid hres
  clear hn hB hres
  go_enter Tryz.func110, Tryz.ntmps110
  go_wp2_with fail
  go_loopw [5, 7] (fun o i wr => ∃ (j x : Nat), j ≤ t ∧ Hid (x = n ^ j) ∧ i = .int .i64 j ∧ o = .int .i64 x ∧ wr = w) (fun _ i _ => t - (intOf i).toNat)
  case atStart => exact ⟨0, 1, by omega, Lib.hid rfl, rfl, rfl, rfl⟩
  case round =>
    obtain ⟨j, x, hj, HX, rfl, rfl, rfl⟩ := hrel
    by_cases hlt : j < t
    · obtain ⟨y, hy⟩ : ∃ y, x * n = y := ⟨_, rfl⟩
      have hy2 : y = n ^ (j + 1) := by rw [← hy, HX.out, Nat.pow_succ]
      have hyb : y ≤ 1000000000000 := by rw [hy2]; exact Nat.le_trans (Nat.pow_le_pow_right HN.out hlt) HB.out
      have e1 := mul_wrap hy hyb (by decide)
      have HY := Lib.hid hy2
      clear hy hy2
      go_wp2_with fail
      exact ⟨⟨j + 1, y, by omega, HY, by go_num, rfl, trivial⟩, by simp [intOf]; omega⟩
    · have HE := Lib.hid (show x = res by rw [HX.out, HR.out, show j = t by omega])
      go_wp2_with fail
      go_ret
      exact ⟨by rw [HE.out]; rfl, rfl⟩
set_option maxRecDepth 100000 in
set_option maxHeartbeats 2000000 in
theorem cost_made (a r n : Nat) (w : World) (ha : a ≤ 16) (hr : r ≤ 12) : Calls Tryz.prog 111 #[.agg #[.int .i64 a, .int .i64 r, .int .i64 n]] w fun e w' => e = .returned (.int .i64 (madeN a r : Nat)) ∧ Below w.heap.size w w' := by
  obtain ⟨a1, h1⟩ : ∃ q, a + 1 = q := ⟨_, rfl⟩
  obtain ⟨q1, h2⟩ : ∃ q, a1 * a1 = q := ⟨_, rfl⟩
  obtain ⟨q2, h3⟩ : ∃ q, q1 * r = q := ⟨_, rfl⟩
  have HR := Lib.hid (show madeN a r = q2 by unfold madeN; rw [h1, h2, h3])
  have l1 : q1 ≤ 17 * 17 := by rw [← h2]; exact Nat.mul_le_mul (by omega) (by omega)
  have l2 : q2 ≤ 17 * 17 * 12 := by rw [← h3]; exact Nat.mul_le_mul l1 hr
  have e1 := mul_wrap h2 l1 (by decide)
  have e2 := mul_wrap h3 l2 (by decide)
  have haI : (a : Int) + 1 = (a1 : Int) := by omega
  clear h1 h2 h3 l1 l2
  go_enter Tryz.func111, Tryz.ntmps111
  go_wp2_with fail
  go_ret
  exact ⟨by rw [HR.out]; rfl, (Below.refl _ _).alloc (Nat.le_refl _) _⟩
theorem Blk.three0 {w : World} {g : Nat} {z0 z1 z2 : Value} (h : Blk w g #[z0, z1, z2]) (x0 x1 x2 : Value) : Blk (puts w g 0 [x0, x1, x2]) g #[x0, x1, x2] := by
  have h := ((h.put (o := 0) (v := x0) (by simp)).put (o := 1) (v := x1) (by simp)).put (o := 2) (v := x2) (by simp)
  simp at h
  exact h
theorem TriAt.putsC3 {w wx : World} {A B : Array Value} {z0 z1 z2 : Value} (h : TriAt w A B #[z0, z1, z2] wx) (x0 x1 x2 : Value) : TriAt w A B #[x0, x1, x2] (puts wx (w.heap.size + 1 + 1) 0 [x0, x1, x2]) :=
  ⟨h.a.puts_far (by omega) _ 0 wx, h.b.puts_far (by omega) _ 0 wx, h.c.three0 x0 x1 x2, below_puts (by omega) _ 0 wx h.low⟩
section
variable {w : World} {v0 v1 v2 v3 : Value} {l : List St} {g h : List Rl} {qs : List Qv} {F : Qv → List ByteArray} {q : Qv} {us PS NS : List ByteArray}
theorem policy_PrinsX (P : PolX w v0 v1 v2 v3 l g h qs F PS NS) : Calls Tryz.prog 114 #[pv v0 v1 v2 v3] w fun e w' => ∃ v, e = .returned v ∧ Sl w' 1 v PS.length (strs PS) ∧ Below w.heap.size w w' := by
  have := policy_Prins v0 v1 v2 v3 l g h qs w P.at_ P.hl P.hg P.hh P.hq F P.hF
  rw [P.eP] at this
  refine this.mono ?_
  rintro e w' ⟨v, rfl, ho, _, hb⟩
  exact ⟨v, rfl, Sl.of_own ho, hb⟩
theorem policy_NamesX (P : PolX w v0 v1 v2 v3 l g h qs F PS NS) : Calls Tryz.prog 115 #[pv v0 v1 v2 v3] w fun e w' => ∃ v, e = .returned v ∧ Sl w' 1 v NS.length (strs NS) ∧ Below w.heap.size w w' := by
  have := policy_Names v0 v1 v2 v3 l g h qs w P.at_ P.hl P.hg P.hh P.hq
  rw [P.eN] at this
  refine this.mono ?_
  rintro e w' ⟨v, rfl, ho, _, hb⟩
  exact ⟨v, rfl, Sl.of_own ho, hb⟩
set_option maxRecDepth 100000 in
set_option maxHeartbeats 8000000 in
theorem cost_of (P : SimIn w v0 v1 v2 v3 l g h qs q us PS NS) :
    Calls Tryz.prog 109 #[pv v0 v1 v2 v3, qv q] w fun e w' => e = .returned (.tuple #[.agg #[.int .i64 PS.length, .int .i64 NS.length, .int .i64 l.length], .bool true]) ∧ Below w.heap.size w w' := by
  have HP := Lib.hid P
  obtain ⟨a0, c0, rfl⟩ := P.at_.rs.form
  obtain ⟨a1, c1, rfl⟩ := P.at_.rg.form
  obtain ⟨a2, c2, rfl⟩ := P.at_.rh.form
  obtain ⟨a3, c3, rfl⟩ := P.at_.rq.form
  obtain ⟨xk, ⟨x1, x2⟩, ⟨x3, x4⟩, wv⟩ := q
  obtain ⟨wo, wc, e1⟩ := P.hu.form
  dsimp only at e1
  subst e1
  clear P
  have HT := Lib.hid (show TriAt w #[.slice a0 l.length c0, .slice a1 g.length c1, .slice a2 h.length c2, .slice a3 qs.length c3] #[.int .i64 xk, .string x1, .string x2, .string x3, .string x4, .slice wo us.length wc] #[.int .i64 0, .int .i64 0, .int .i64 0] (((w.alloc (.cells #[.slice a0 l.length c0, .slice a1 g.length c1, .slice a2 h.length c2, .slice a3 qs.length c3] 26)).alloc (.cells #[.int .i64 xk, .string x1, .string x2, .string x3, .string x4, .slice wo us.length wc] 45)).alloc (.cells #[.int .i64 0, .int .i64 0, .int .i64 0] 131))
    from TriAt.new w _ _ _ _ _ _)
  go_enter Tryz.func109, Tryz.ntmps109
  go_upto_region 1 with fail
  obtain ⟨wk, hwk⟩ : ∃ W, W = (((w.alloc (.cells #[.slice a0 l.length c0, .slice a1 g.length c1, .slice a2 h.length c2, .slice a3 qs.length c3] 26)).alloc (.cells #[.int .i64 xk, .string x1, .string x2, .string x3, .string x4, .slice wo us.length wc] 45)).alloc (.cells #[.int .i64 0, .int .i64 0, .int .i64 0] 131)) := ⟨_, rfl⟩
  rw [← hwk] at HT ⊢
  clear hwk
  obtain ⟨ca, fa, za⟩ := HT.out.a
  obtain ⟨cb, fb, zb⟩ := HT.out.b
  go_wp2_with fail
  refine (sim_Only (.slice a0 l.length c0) (.slice a1 g.length c1) (.slice a2 h.length c2) (.slice a3 qs.length c3) l g h qs ⟨xk, ⟨x1, x2⟩, ⟨x3, x4⟩, .slice wo us.length wc⟩ wk (HP.out.at_.below HT.out.low)).mono ?_
  rintro e w1 ⟨vq, rfl, hvq, hb1⟩
  obtain ⟨qa, qc, rfl⟩ := hvq.form
  have HT := Lib.hid (HT.out.later hb1)
  have HQ := Lib.hid hvq
  clear hvq hb1 ca fa za cb fb zb
  obtain ⟨ca, fa, za⟩ := HT.out.a
  go_upto_region 2 with fail
  obtain ⟨w2, hw2⟩ : ∃ W, W = puts w1 w.heap.size 0 [.slice a0 l.length c0, .slice a1 g.length c1, .slice a2 h.length c2, .slice qa 1 qc] := ⟨_, rfl⟩
  have hch : ((((w1.setCell ⟨w.heap.size, 0, none⟩ (.slice a0 l.length c0)).setCell ⟨w.heap.size, 1, none⟩ (.slice a1 g.length c1)).setCell ⟨w.heap.size, 2, none⟩ (.slice a2 h.length c2)).setCell ⟨w.heap.size, 3, none⟩ (.slice qa 1 qc)) = w2 := hw2.symm
  rw [hch]
  have HQ := Lib.hid (HQ.out.putsBlk [.slice a0 l.length c0, .slice a1 g.length c1, .slice a2 h.length c2, .slice qa 1 qc] 0 w1 _ HT.out.a (by simp) (by simp))
  have HT := Lib.hid (HT.out.putsA (.slice a0 l.length c0) (.slice a1 g.length c1) (.slice a2 h.length c2) (.slice qa 1 qc))
  rw [← hw2] at HQ HT
  clear hch hw2 ca fa za
  obtain ⟨ca, fa, za⟩ := HT.out.a
  obtain ⟨cb, fb, zb⟩ := HT.out.b
  go_wp2_with fail
  refine (sim_IsT HP.out HT.out.low).mono ?_
  rintro e w3 ⟨rfl, hb3⟩
  have HQ := Lib.hid (HQ.out.below hb3)
  have HT := Lib.hid (HT.out.later hb3)
  clear hb3 ca fa za cb fb zb
  obtain ⟨ca, fa, za⟩ := HT.out.a
  go_wp2_with fail
  refine (sim_Right HP.out HT.out.low HQ.out).mono ?_
  rintro e w4 ⟨rfl, hb4⟩
  have HQ := Lib.hid (HQ.out.below hb4)
  have HT := Lib.hid (HT.out.later hb4)
  clear hb4 ca fa za
  have h6 := HP.out.h6
  have h4 := HP.out.h4
  have hl30 := HP.out.hl
  go_wp2_with fail
  refine wp_region_held_drew (S := (fun W => ∀ o, W.cell? ⟨w.heap.size, o, none⟩ = (#[.slice a0 l.length c0, .slice a1 g.length c1, .slice a2 h.length c2, .slice qa 1 qc] : Array Value)[o]?)) (by kernel_rfl) HT.out.drew.a.1 (fun hHeld => ?_)
  have HT := HT.out.drew
  have HQ := Lib.hid (HQ.out.below (below_drew (Below.refl _ w4)))
  obtain ⟨wk, hwk⟩ : ∃ W, W = w4.drew := ⟨_, rfl⟩
  rw [← hwk] at HT HQ hHeld ⊢
  clear hwk
  (refine held_yes (v := ?_) 0 rfl (by kernel_rfl) (by kernel_rfl) (by kernel_rfl) (fun _ _ _ h => h) (by rfl) (by assumption) ?_ ?_; rotate_left; (focus ((intro w hSw); (try dsimp only at hSw); go_simp; (try with_reducible rfl))); (try simp only [Act.put, List.setIfInBounds_toArray, List.set_cons_zero, List.set_cons_succ])); (refine held_yes (v := ?_) 3 rfl (by kernel_rfl) (by kernel_rfl) (by kernel_rfl) (fun _ _ _ h => h) (by rfl) (by assumption) ?_ ?_; rotate_left; (focus ((intro w hSw); (try dsimp only at hSw); go_simp; (try with_reducible rfl))); (try simp only [Act.put, List.setIfInBounds_toArray, List.set_cons_zero, List.set_cons_succ])); (refine held_yes (v := ?_) 6 rfl (by kernel_rfl) (by kernel_rfl) (by kernel_rfl) (fun _ _ _ h => h) (by rfl) (by assumption) ?_ ?_; rotate_left; (focus ((intro w hSw); (try dsimp only at hSw); go_simp; (try with_reducible rfl))); (try simp only [Act.put, List.setIfInBounds_toArray, List.set_cons_zero, List.set_cons_succ])); (refine held_yes (v := ?_) 7 rfl (by kernel_rfl) (by kernel_rfl) (by kernel_rfl) (fun _ _ _ h => h) (by rfl) (by assumption) ?_ ?_; rotate_left; (focus ((intro w hSw); (try dsimp only at hSw); go_simp; (try with_reducible rfl))); (try simp only [Act.put, List.setIfInBounds_toArray, List.set_cons_zero, List.set_cons_succ])); (refine held_yes (v := ?_) 8 rfl (by kernel_rfl) (by kernel_rfl) (by kernel_rfl) (fun _ _ _ h => h) (by rfl) (by assumption) ?_ ?_; rotate_left; (focus ((intro w hSw); (try dsimp only at hSw); go_simp; (try with_reducible rfl))); (try simp only [Act.put, List.setIfInBounds_toArray, List.set_cons_zero, List.set_cons_succ]))
  (refine held_call 1 rfl (by kernel_rfl) (fun K hK => ?_); go_simp)
  go_at_call 114; refine (policy_PrinsX (HP.out.polx HT.low HQ.out)).mono ?_; rintro e wz1 ⟨vp, rfl, hp1, hbq⟩; obtain ⟨pa, pc, rfl⟩ := hp1.form; clear hp1
  have HT := HT.later hbq
  have HQ := Lib.hid (HQ.out.below hbq)
  clear hbq
  (refine hK.out _ _ (HT.a.1) (fun hHeld => ?_); clear hK K; (try simp only [Act.put, List.setIfInBounds_toArray, List.set_cons_zero, List.set_cons_succ]))
  (refine held_yes (v := ?_) 2 rfl (by kernel_rfl) (by kernel_rfl) (by kernel_rfl) (fun _ _ _ h => h) (by rfl) (by assumption) ?_ ?_; rotate_left; (focus ((intro w hSw); (try dsimp only at hSw); go_simp; (try with_reducible rfl))); (try simp only [Act.put, List.setIfInBounds_toArray, List.set_cons_zero, List.set_cons_succ]))
  (refine held_call 4 rfl (by kernel_rfl) (fun K hK => ?_); go_simp)
  go_at_call 115; refine (policy_NamesX (HP.out.polx HT.low HQ.out)).mono ?_; rintro e wz4 ⟨vn, rfl, hn1, hbq⟩; obtain ⟨na, nc, rfl⟩ := hn1.form; clear hn1
  have HT := HT.later hbq
  have HQ := Lib.hid (HQ.out.below hbq)
  clear hbq
  obtain ⟨cc, fc, zc⟩ := HT.c
  (refine hK.out _ _ (HT.a.1) (fun hHeld => ?_); clear hK K; (try simp only [Act.put, List.setIfInBounds_toArray, List.set_cons_zero, List.set_cons_succ]))
  (refine held_yes (v := ?_) 5 rfl (by kernel_rfl) (by kernel_rfl) (by kernel_rfl) (fun _ _ _ h => h) (by rfl) (by assumption) ?_ ?_; rotate_left; (focus ((intro w hSw); (try dsimp only at hSw); go_simp; (try with_reducible rfl))); (try simp only [Act.put, List.setIfInBounds_toArray, List.set_cons_zero, List.set_cons_succ])); (refine held_yes (v := ?_) 9 rfl (by kernel_rfl) (by kernel_rfl) (by kernel_rfl) (fun _ _ _ h => h) (by rfl) (by assumption) ?_ ?_; rotate_left; (focus ((intro w hSw); (try dsimp only at hSw); go_simp; (try with_reducible rfl))); (try simp only [Act.put, List.setIfInBounds_toArray, List.set_cons_zero, List.set_cons_succ]))
  (refine held_call 10 rfl (by kernel_rfl) (fun K hK => ?_); go_simp)
  -- the store
  obtain ⟨wy, hwy⟩ : ∃ W, W = puts wz4 (w.heap.size + 1 + 1) 0 [.int .i64 PS.length, .int .i64 NS.length, .int .i64 l.length] := ⟨_, rfl⟩
  have hch : (((wz4.setCell ⟨w.heap.size + 1 + 1, 0, none⟩ (.int .i64 PS.length)).setCell ⟨w.heap.size + 1 + 1, 1, none⟩ (.int .i64 NS.length)).setCell ⟨w.heap.size + 1 + 1, 2, none⟩ (.int .i64 l.length)) = wy := hwy.symm
  rw [hch]
  have HT := HT.putsC3 (.int .i64 PS.length) (.int .i64 NS.length) (.int .i64 l.length)
  rw [← hwy] at HT
  clear hch hwy HQ cc fc zc
  (refine hK.out _ _ (HT.a.1) (fun hHeld => ?_); clear hK K; (try simp only [Act.put, List.setIfInBounds_toArray, List.set_cons_zero, List.set_cons_succ]))
  (refine held_yes (v := ?_) 11 rfl (by kernel_rfl) (by kernel_rfl) (by kernel_rfl) (fun _ _ _ h => h) (by rfl) (by assumption) ?_ ?_; rotate_left; (focus ((intro w hSw); (try dsimp only at hSw); go_simp; (try with_reducible rfl))); (try simp only [Act.put, List.setIfInBounds_toArray, List.set_cons_zero, List.set_cons_succ]))
  refine wpAnyH_done (by kernel_rfl) ?_ _
  have HZ := Lib.hid HT
  clear HT
  obtain ⟨cc, fc, zc⟩ := HZ.out.c
  go_wp2
  exact bodyPost_ret (v := .tuple #[.agg #[.int .i64 PS.length, .int .i64 NS.length, .int .i64 l.length], .bool true]) (by simp [results, Tryz.results109, go_sem, cc]) rfl ⟨rfl, HZ.out.low⟩
set_option maxRecDepth 100000 in
set_option maxHeartbeats 8000000 in
theorem cost_ofNo (P : SimQ w v0 v1 v2 v3 l g h qs q us) (hno : ¬ (RightP l g h [q] (fun _ => us) ∧ ¬ q.k = 6)) :
    Calls Tryz.prog 109 #[pv v0 v1 v2 v3, qv q] w fun e w' => e = .returned (.tuple #[.agg #[.int .i64 0, .int .i64 0, .int .i64 0], .bool false]) ∧ Below w.heap.size w w' := by
  have HN := Lib.hid hno
  have HP := Lib.hid P
  obtain ⟨a0, c0, rfl⟩ := P.at_.rs.form
  obtain ⟨a1, c1, rfl⟩ := P.at_.rg.form
  obtain ⟨a2, c2, rfl⟩ := P.at_.rh.form
  obtain ⟨a3, c3, rfl⟩ := P.at_.rq.form
  obtain ⟨xk, ⟨x1, x2⟩, ⟨x3, x4⟩, wv⟩ := q
  obtain ⟨wo, wc, e1⟩ := P.hu.form
  dsimp only at e1
  subst e1
  clear hno
  clear P
  have HT := Lib.hid (show TriAt w #[.slice a0 l.length c0, .slice a1 g.length c1, .slice a2 h.length c2, .slice a3 qs.length c3] #[.int .i64 xk, .string x1, .string x2, .string x3, .string x4, .slice wo us.length wc] #[.int .i64 0, .int .i64 0, .int .i64 0] (((w.alloc (.cells #[.slice a0 l.length c0, .slice a1 g.length c1, .slice a2 h.length c2, .slice a3 qs.length c3] 26)).alloc (.cells #[.int .i64 xk, .string x1, .string x2, .string x3, .string x4, .slice wo us.length wc] 45)).alloc (.cells #[.int .i64 0, .int .i64 0, .int .i64 0] 131))
    from TriAt.new w _ _ _ _ _ _)
  go_enter Tryz.func109, Tryz.ntmps109
  go_upto_region 1 with fail
  obtain ⟨wk, hwk⟩ : ∃ W, W = (((w.alloc (.cells #[.slice a0 l.length c0, .slice a1 g.length c1, .slice a2 h.length c2, .slice a3 qs.length c3] 26)).alloc (.cells #[.int .i64 xk, .string x1, .string x2, .string x3, .string x4, .slice wo us.length wc] 45)).alloc (.cells #[.int .i64 0, .int .i64 0, .int .i64 0] 131)) := ⟨_, rfl⟩
  rw [← hwk] at HT ⊢
  clear hwk
  obtain ⟨ca, fa, za⟩ := HT.out.a
  obtain ⟨cb, fb, zb⟩ := HT.out.b
  go_wp2_with fail
  refine (sim_Only (.slice a0 l.length c0) (.slice a1 g.length c1) (.slice a2 h.length c2) (.slice a3 qs.length c3) l g h qs ⟨xk, ⟨x1, x2⟩, ⟨x3, x4⟩, .slice wo us.length wc⟩ wk (HP.out.at_.below HT.out.low)).mono ?_
  rintro e w1 ⟨vq, rfl, hvq, hb1⟩
  obtain ⟨qa, qc, rfl⟩ := hvq.form
  have HT := Lib.hid (HT.out.later hb1)
  have HQ := Lib.hid hvq
  clear hvq hb1 ca fa za cb fb zb
  obtain ⟨ca, fa, za⟩ := HT.out.a
  go_upto_region 2 with fail
  obtain ⟨w2, hw2⟩ : ∃ W, W = puts w1 w.heap.size 0 [.slice a0 l.length c0, .slice a1 g.length c1, .slice a2 h.length c2, .slice qa 1 qc] := ⟨_, rfl⟩
  have hch : ((((w1.setCell ⟨w.heap.size, 0, none⟩ (.slice a0 l.length c0)).setCell ⟨w.heap.size, 1, none⟩ (.slice a1 g.length c1)).setCell ⟨w.heap.size, 2, none⟩ (.slice a2 h.length c2)).setCell ⟨w.heap.size, 3, none⟩ (.slice qa 1 qc)) = w2 := hw2.symm
  rw [hch]
  have HQ := Lib.hid (HQ.out.putsBlk [.slice a0 l.length c0, .slice a1 g.length c1, .slice a2 h.length c2, .slice qa 1 qc] 0 w1 _ HT.out.a (by simp) (by simp))
  have HT := Lib.hid (HT.out.putsA (.slice a0 l.length c0) (.slice a1 g.length c1) (.slice a2 h.length c2) (.slice qa 1 qc))
  rw [← hw2] at HQ HT
  clear hch hw2 ca fa za
  obtain ⟨ca, fa, za⟩ := HT.out.a
  obtain ⟨cb, fb, zb⟩ := HT.out.b
  go_wp2_with fail
  refine (simq_Is HP.out HT.out.low).mono ?_
  rintro e w3 ⟨rfl, hb3⟩
  have HQ := Lib.hid (HQ.out.below hb3)
  have HT := Lib.hid (HT.out.later hb3)
  have HK := Lib.hid (show ∀ b, (rightQ ⟨xk, ⟨x1, x2⟩, ⟨x3, x4⟩, .slice wo us.length wc⟩ us && !decide (xk = 6)) = b → b = true → RightP l g h [⟨xk, ⟨x1, x2⟩, ⟨x3, x4⟩, .slice wo us.length wc⟩] (fun _ => us) → False from fun b e hb hr => by
    rw [hb, Bool.and_eq_true, Bool.not_eq_true', decide_eq_false_iff_not] at e
    exact HN.out ⟨hr, e.2⟩)
  generalize (rightQ ⟨xk, ⟨x1, x2⟩, ⟨x3, x4⟩, .slice wo us.length wc⟩ us && !decide (xk = 6)) = b at *
  have HK := Lib.hid (HK.out b rfl)
  clear hb3 ca fa za cb fb zb HN
  cases b with
  | false =>
    obtain ⟨cc, fc, zc⟩ := HT.out.c
    go_wp2
    obtain ⟨wy, hwy⟩ : ∃ W, W = puts w3 (w.heap.size + 1 + 1) 0 [.int .i64 0, .int .i64 0, .int .i64 0] := ⟨_, rfl⟩
    have hch : (((w3.setCell ⟨w.heap.size + 1 + 1, 0, none⟩ (.int .i64 0)).setCell ⟨w.heap.size + 1 + 1, 1, none⟩ (.int .i64 0)).setCell ⟨w.heap.size + 1 + 1, 2, none⟩ (.int .i64 0)) = wy := hwy.symm
    rw [hch]
    have HT := Lib.hid (HT.out.putsC3 (.int .i64 0) (.int .i64 0) (.int .i64 0))
    rw [← hwy] at HT
    clear hch hwy cc fc zc
    obtain ⟨cc, fc, zc⟩ := HT.out.c
    exact bodyPost_ret (v := .tuple #[.agg #[.int .i64 0, .int .i64 0, .int .i64 0], .bool false]) (by simp [results, Tryz.results109, go_sem, cc]) rfl ⟨rfl, HT.out.low⟩
  | true =>
    obtain ⟨ca, fa, za⟩ := HT.out.a
    go_wp2_with fail
    refine (simq_Right HP.out HT.out.low HQ.out).mono ?_
    rintro e w4 ⟨⟨br, rfl, hri⟩, hb4⟩
    have hbf : br = false := by
      cases br with
      | false => rfl
      | true => exact (HK.out (by first | rfl | trivial) (hri.1 rfl)).elim
    subst hbf
    have HT := Lib.hid (HT.out.later hb4)
    clear hb4 hri ca fa za HK HQ
    obtain ⟨cc, fc, zc⟩ := HT.out.c
    go_wp2
    obtain ⟨wy, hwy⟩ : ∃ W, W = puts w4 (w.heap.size + 1 + 1) 0 [.int .i64 0, .int .i64 0, .int .i64 0] := ⟨_, rfl⟩
    have hch : (((w4.setCell ⟨w.heap.size + 1 + 1, 0, none⟩ (.int .i64 0)).setCell ⟨w.heap.size + 1 + 1, 1, none⟩ (.int .i64 0)).setCell ⟨w.heap.size + 1 + 1, 2, none⟩ (.int .i64 0)) = wy := hwy.symm
    rw [hch]
    have HT := Lib.hid (HT.out.putsC3 (.int .i64 0) (.int .i64 0) (.int .i64 0))
    rw [← hwy] at HT
    clear hch hwy cc fc zc
    obtain ⟨cc, fc, zc⟩ := HT.out.c
    exact bodyPost_ret (v := .tuple #[.agg #[.int .i64 0, .int .i64 0, .int .i64 0], .bool false]) (by simp [results, Tryz.results109, go_sem, cc]) rfl ⟨rfl, HT.out.low⟩
end
/-- Two blocks at the call's beginning, and one more. -/
structure TwoC (w : World) (A B : Array Value) (g : Nat) (C : Array Value) (wx : World) : Prop where
  two : TwoAt w A B wx
  c : Blk wx g C
theorem TwoC.later {w wx w' : World} {A B C : Array Value} {g : Nat} (h : TwoC w A B g C wx) (hb : Below wx.heap.size wx w') : TwoC w A B g C w' := ⟨h.two.later hb, h.c.below hb⟩
theorem TwoC.low {w wx : World} {A B C : Array Value} {g : Nat} (h : TwoC w A B g C wx) : Below w.heap.size w wx := h.two.low
theorem TwoAt.drew3 {w wx : World} {A B : Array Value} (h : TwoAt w A B wx) (C : Array Value) (t : TypeId) : TwoC w A B wx.heap.size C (wx.alloc (.cells C t)).drew :=
  ⟨h.later (below_drew ((Below.refl _ _).alloc (Nat.le_refl _) _)), (Blk.new wx C t).below (below_drew (Below.refl _ _))⟩
section
variable {w : World} {v0 v1 v2 v3 : Value} {l : List St} {g h : List Rl} {qs : List Qv} {q : Qv} {us PS NS : List ByteArray}
set_option maxRecDepth 100000 in
set_option maxHeartbeats 8000000 in
theorem cost_Bound (P : SimIn w v0 v1 v2 v3 l g h qs q us PS NS) :
    Calls Tryz.prog 42 #[pv v0 v1 v2 v3, qv q] w fun e w' => e = .returned (.tuple #[.int .i64 (costN PS.length NS.length l.length : Nat), .bool true]) ∧ Below w.heap.size w w' := by
  skip
  have HP := Lib.hid P
  obtain ⟨a0, c0, rfl⟩ := P.at_.rs.form
  obtain ⟨a1, c1, rfl⟩ := P.at_.rg.form
  obtain ⟨a2, c2, rfl⟩ := P.at_.rh.form
  obtain ⟨a3, c3, rfl⟩ := P.at_.rq.form
  obtain ⟨xk, ⟨x1, x2⟩, ⟨x3, x4⟩, wv⟩ := q
  obtain ⟨wo, wc, e1⟩ := P.hu.form
  dsimp only at e1
  subst e1
  clear P
  have HT := Lib.hid (show TwoAt w #[.slice a0 l.length c0, .slice a1 g.length c1, .slice a2 h.length c2, .slice a3 qs.length c3] #[.int .i64 xk, .string x1, .string x2, .string x3, .string x4, .slice wo us.length wc] ((w.alloc (.cells #[.slice a0 l.length c0, .slice a1 g.length c1, .slice a2 h.length c2, .slice a3 qs.length c3] 26)).alloc (.cells #[.int .i64 xk, .string x1, .string x2, .string x3, .string x4, .slice wo us.length wc] 45))
    from ⟨(Blk.new w _ _).alloc _, (by have := Blk.new (w.alloc (.cells #[.slice a0 l.length c0, .slice a1 g.length c1, .slice a2 h.length c2, .slice a3 qs.length c3] 26)) #[.int .i64 xk, .string x1, .string x2, .string x3, .string x4, .slice wo us.length wc] 45; simpa using this), ((Below.refl _ _).alloc (Nat.le_refl _) _).alloc (by simp) _⟩)
  have h6 := HP.out.h6
  have h4 := HP.out.h4
  have hl30 := HP.out.hl
  obtain ⟨p, hp⟩ : ∃ x, PS.length + 2 = x := ⟨_, rfl⟩
  obtain ⟨r, hr⟩ : ∃ x, NS.length + 1 = x := ⟨_, rfl⟩
  have hp3 : p ^ 3 = p * p * p := by rw [Nat.pow_succ, Nat.pow_two]
  have hr2 : r ^ 2 = r * r := Nat.pow_two _
  have b3 : p * p * p ≤ 18 * 18 * 18 := Nat.mul_le_mul (Nat.mul_le_mul (by omega) (by omega)) (by omega)
  have b2 : r * r ≤ 13 * 13 := Nat.mul_le_mul (by omega) (by omega)
  have PW3 := Lib.hid (fun W => cost_power p 3 W (by omega) (by omega) (by decide))
  have PW2 := Lib.hid (fun W => cost_power r 2 W (by omega) (by omega) (by decide))
  rw [hp3] at PW3
  rw [hr2] at PW2
  obtain ⟨m, hm⟩ : ∃ x, madeN PS.length NS.length = x := ⟨_, rfl⟩
  have EM := Lib.hid hm
  have bm : m ≤ 17 * 17 * 12 := by rw [← hm]; exact madeN_le h6 h4
  obtain ⟨q3, e3⟩ : ∃ x, p * p * p = x := ⟨_, rfl⟩
  obtain ⟨q2, e2⟩ : ∃ x, r * r = x := ⟨_, rfl⟩
  rw [e3] at b3 PW3
  rw [e2] at b2 PW2
  obtain ⟨z, hz⟩ : ∃ x, l.length + 1 + m = x := ⟨_, rfl⟩
  obtain ⟨y1, f1⟩ : ∃ x, 4 * q3 = x := ⟨_, rfl⟩
  obtain ⟨y2, f2⟩ : ∃ x, y1 * q2 = x := ⟨_, rfl⟩
  obtain ⟨y3, f3⟩ : ∃ x, y2 * z = x := ⟨_, rfl⟩
  have RES := Lib.hid (show costN PS.length NS.length l.length = y3 by unfold costN; rw [hp, hr, e3, e2, hm, hz, f1, f2, f3])
  have l2 : y2 ≤ 4 * (18 * 18 * 18) * (13 * 13) := by rw [← f2]; exact Nat.mul_le_mul (by omega) (by omega)
  have l3 : y3 ≤ 4 * (18 * 18 * 18) * (13 * 13) * 10000 := by rw [← f3]; exact Nat.mul_le_mul l2 (by omega)
  have u1 : IntKind.i64.wrap (4 * (q3 : Int)) = (y1 : Int) := mul_wrap (a := 4) f1 (show y1 ≤ 4 * (18 * 18 * 18) by omega) (by decide)
  have u2 := mul_wrap f2 l2 (by decide)
  have u3 := mul_wrap f3 l3 (by decide)
  have t1 : (PS.length : Int) + 2 = (p : Int) := by omega
  have t2 : (NS.length : Int) + 1 = (r : Int) := by omega
  have t3 : (l.length : Int) + 1 + (m : Int) = (z : Int) := by omega
  have s1 : IntKind.i64.wrap ((PS.length : Int) + 2) = (p : Int) := by rw [t1]; exact Go.IntWalk.i64_in _ (by omega)
  have s2 : IntKind.i64.wrap ((NS.length : Int) + 1) = (r : Int) := by rw [t2]; exact Go.IntWalk.i64_in _ (by omega)
  obtain ⟨l1, hl1⟩ : ∃ x, l.length + 1 = x := ⟨_, rfl⟩
  have s3 : IntKind.i64.wrap ((l.length : Int) + 1) = (l1 : Int) := by rw [show (l.length : Int) + 1 = (l1 : Int) by omega]; exact Go.IntWalk.i64_in _ (by omega)
  have s4 : IntKind.i64.wrap ((l1 : Int) + (m : Int)) = (z : Int) := by rw [show (l1 : Int) + (m : Int) = (z : Int) by omega]; exact Go.IntWalk.i64_in _ (by omega)
  clear hp3 hr2 hm e3 e2 f1 f2 f3 l2 l3 t1 t2 t3 hl1
  go_enter Tryz.func42, Tryz.ntmps42
  go_upto_region 1 with fail
  obtain ⟨wk, hwk⟩ : ∃ W, W = ((w.alloc (.cells #[.slice a0 l.length c0, .slice a1 g.length c1, .slice a2 h.length c2, .slice a3 qs.length c3] 26)).alloc (.cells #[.int .i64 xk, .string x1, .string x2, .string x3, .string x4, .slice wo us.length wc] 45)) := ⟨_, rfl⟩
  rw [← hwk] at HT ⊢
  clear hwk
  obtain ⟨ca, fa, za⟩ := HT.out.a
  obtain ⟨cb, fb, zb⟩ := HT.out.b
  go_wp2_with fail
  refine (cost_of (HP.out.below HT.out.low)).mono ?_
  rintro e w1 ⟨rfl, hb1⟩
  have HT := Lib.hid (HT.out.later hb1)
  have h6 := HP.out.h6
  have h4 := HP.out.h4
  have hl30 := HP.out.hl
  clear hb1 ca fa za cb fb zb
  go_wp2_with fail
  have HT := HT.out.drew3 #[.int .i64 PS.length, .int .i64 NS.length, .int .i64 l.length] 131
  refine wp_region_held_drew (S := (fun W => ∀ o, W.cell? ⟨w1.heap.size, o, none⟩ = (#[.int .i64 PS.length, .int .i64 NS.length, .int .i64 l.length] : Array Value)[o]?)) (by kernel_rfl) HT.c.1 (fun hHeld => ?_)
  obtain ⟨wk, hwk⟩ : ∃ W, W = (w1.alloc (.cells #[.int .i64 PS.length, .int .i64 NS.length, .int .i64 l.length] 131)).drew := ⟨_, rfl⟩
  rw [← hwk] at HT hHeld ⊢
  clear hwk
  (refine held_yes (v := ?_) 0 rfl (by kernel_rfl) (by kernel_rfl) (by kernel_rfl) (fun _ _ _ h => h) (by rfl) (by assumption) ?_ ?_; rotate_left; (focus ((intro w hSw); (try dsimp only at hSw); go_simp; (try with_reducible rfl))); (try simp only [Act.put, List.setIfInBounds_toArray, List.set_cons_zero, List.set_cons_succ])); (refine held_yes (v := ?_) 1 rfl (by kernel_rfl) (by kernel_rfl) (by kernel_rfl) (fun _ _ _ h => h) (by rfl) (by assumption) ?_ ?_; rotate_left; (focus ((intro w hSw); (try dsimp only at hSw); go_simp; (try with_reducible rfl))); (try simp only [Act.put, List.setIfInBounds_toArray, List.set_cons_zero, List.set_cons_succ])); (refine held_yes (v := ?_) 2 rfl (by kernel_rfl) (by kernel_rfl) (by kernel_rfl) (fun _ _ _ h => h) (by rfl) (by assumption) ?_ ?_; rotate_left; (focus ((intro w hSw); (try dsimp only at hSw); go_simp; (try with_reducible rfl))); (try simp only [Act.put, List.setIfInBounds_toArray, List.set_cons_zero, List.set_cons_succ])); (refine held_yes (v := ?_) 5 rfl (by kernel_rfl) (by kernel_rfl) (by kernel_rfl) (fun _ _ _ h => h) (by rfl) (by assumption) ?_ ?_; rotate_left; (focus ((intro w hSw); (try dsimp only at hSw); go_simp; (try with_reducible rfl))); (try simp only [Act.put, List.setIfInBounds_toArray, List.set_cons_zero, List.set_cons_succ])); (refine held_yes (v := ?_) 6 rfl (by kernel_rfl) (by kernel_rfl) (by kernel_rfl) (fun _ _ _ h => h) (by rfl) (by assumption) ?_ ?_; rotate_left; (focus ((intro w hSw); (try dsimp only at hSw); go_simp; (try with_reducible rfl))); (try simp only [Act.put, List.setIfInBounds_toArray, List.set_cons_zero, List.set_cons_succ])); (refine held_yes (v := ?_) 7 rfl (by kernel_rfl) (by kernel_rfl) (by kernel_rfl) (fun _ _ _ h => h) (by rfl) (by assumption) ?_ ?_; rotate_left; (focus ((intro w hSw); (try dsimp only at hSw); go_simp; (try with_reducible rfl))); (try simp only [Act.put, List.setIfInBounds_toArray, List.set_cons_zero, List.set_cons_succ])); (refine held_yes (v := ?_) 10 rfl (by kernel_rfl) (by kernel_rfl) (by kernel_rfl) (fun _ _ _ h => h) (by rfl) (by assumption) ?_ ?_; rotate_left; (focus ((intro w hSw); (try dsimp only at hSw); go_simp; (try with_reducible rfl))); (try simp only [Act.put, List.setIfInBounds_toArray, List.set_cons_zero, List.set_cons_succ])); (refine held_yes (v := ?_) 11 rfl (by kernel_rfl) (by kernel_rfl) (by kernel_rfl) (fun _ _ _ h => h) (by rfl) (by assumption) ?_ ?_; rotate_left; (focus ((intro w hSw); (try dsimp only at hSw); go_simp; (try with_reducible rfl))); (try simp only [Act.put, List.setIfInBounds_toArray, List.set_cons_zero, List.set_cons_succ])); (refine held_yes (v := ?_) 12 rfl (by kernel_rfl) (by kernel_rfl) (by kernel_rfl) (fun _ _ _ h => h) (by rfl) (by assumption) ?_ ?_; rotate_left; (focus ((intro w hSw); (try dsimp only at hSw); go_simp; (try with_reducible rfl))); (try simp only [Act.put, List.setIfInBounds_toArray, List.set_cons_zero, List.set_cons_succ])); (refine held_yes (v := ?_) 13 rfl (by kernel_rfl) (by kernel_rfl) (by kernel_rfl) (fun _ _ _ h => h) (by rfl) (by assumption) ?_ ?_; rotate_left; (focus ((intro w hSw); (try dsimp only at hSw); go_simp; (try with_reducible rfl))); (try simp only [Act.put, List.setIfInBounds_toArray, List.set_cons_zero, List.set_cons_succ]))
  (refine held_call 3 rfl (by kernel_rfl) (fun K hK => ?_); go_simp)
  go_at_call 110; refine (PW3.out _).mono ?_; rintro e wz3 ⟨rfl, rfl⟩
  (refine hK.out _ _ (HT.c.1) (fun hHeld => ?_); clear hK K; (try simp only [Act.put, List.setIfInBounds_toArray, List.set_cons_zero, List.set_cons_succ]))
  (refine held_yes (v := ?_) 4 rfl (by kernel_rfl) (by kernel_rfl) (by kernel_rfl) (fun _ _ _ h => h) (by rfl) (by assumption) ?_ ?_; rotate_left; (focus ((intro w hSw); (try dsimp only at hSw); go_simp; (try with_reducible rfl))); (try simp only [Act.put, List.setIfInBounds_toArray, List.set_cons_zero, List.set_cons_succ]))
  (refine held_call 8 rfl (by kernel_rfl) (fun K hK => ?_); go_simp)
  go_at_call 110; refine (PW2.out _).mono ?_; rintro e wz8 ⟨rfl, rfl⟩
  (refine hK.out _ _ (HT.c.1) (fun hHeld => ?_); clear hK K; (try simp only [Act.put, List.setIfInBounds_toArray, List.set_cons_zero, List.set_cons_succ]))
  (refine held_yes (v := ?_) 9 rfl (by kernel_rfl) (by kernel_rfl) (by kernel_rfl) (fun _ _ _ h => h) (by rfl) (by assumption) ?_ ?_; rotate_left; (focus ((intro w hSw); (try dsimp only at hSw); go_simp; (try with_reducible rfl))); (try simp only [Act.put, List.setIfInBounds_toArray, List.set_cons_zero, List.set_cons_succ]))
  (refine held_call 14 rfl (by kernel_rfl) (fun K hK => ?_); go_simp)
  go_at_call 111; refine (cost_made PS.length NS.length l.length _ h6 h4).mono ?_; rintro e wz14 ⟨rfl, hbq⟩; rw [EM.out]
  have HT := HT.later hbq
  clear hbq
  (refine hK.out _ _ (HT.c.1) (fun hHeld => ?_); clear hK K; (try simp only [Act.put, List.setIfInBounds_toArray, List.set_cons_zero, List.set_cons_succ]))
  (refine held_yes (v := ?_) 15 rfl (by kernel_rfl) (by kernel_rfl) (by kernel_rfl) (fun _ _ _ h => h) (by rfl) (by assumption) ?_ ?_; rotate_left; (focus ((intro w hSw); (try dsimp only at hSw); go_simp; (try with_reducible rfl))); (try simp only [Act.put, List.setIfInBounds_toArray, List.set_cons_zero, List.set_cons_succ])); (refine held_yes (v := ?_) 16 rfl (by kernel_rfl) (by kernel_rfl) (by kernel_rfl) (fun _ _ _ h => h) (by rfl) (by assumption) ?_ ?_; rotate_left; (focus ((intro w hSw); (try dsimp only at hSw); go_simp; (try with_reducible rfl))); (try simp only [Act.put, List.setIfInBounds_toArray, List.set_cons_zero, List.set_cons_succ])); (refine held_yes (v := ?_) 17 rfl (by kernel_rfl) (by kernel_rfl) (by kernel_rfl) (fun _ _ _ h => h) (by rfl) (by assumption) ?_ ?_; rotate_left; (focus ((intro w hSw); (try dsimp only at hSw); go_simp; (try with_reducible rfl))); (try simp only [Act.put, List.setIfInBounds_toArray, List.set_cons_zero, List.set_cons_succ])); (refine held_yes (v := ?_) 18 rfl (by kernel_rfl) (by kernel_rfl) (by kernel_rfl) (fun _ _ _ h => h) (by rfl) (by assumption) ?_ ?_; rotate_left; (focus ((intro w hSw); (try dsimp only at hSw); go_simp; (try with_reducible rfl))); (try simp only [Act.put, List.setIfInBounds_toArray, List.set_cons_zero, List.set_cons_succ]))
  refine wpAnyH_done (by kernel_rfl) ?_ _
  have HZ := Lib.hid HT
  clear HT
  go_wp2
  go_ret2
  exact ⟨by rw [RES.out]; rfl, HZ.out.low⟩
set_option maxRecDepth 100000 in
set_option maxHeartbeats 8000000 in
theorem cost_BoundNo (P : SimQ w v0 v1 v2 v3 l g h qs q us) (hno : ¬ (RightP l g h [q] (fun _ => us) ∧ ¬ q.k = 6)) :
    Calls Tryz.prog 42 #[pv v0 v1 v2 v3, qv q] w fun e w' => e = .returned (.tuple #[.int .i64 0, .bool false]) ∧ Below w.heap.size w w' := by
  have HN := Lib.hid hno
  have HP := Lib.hid P
  obtain ⟨a0, c0, rfl⟩ := P.at_.rs.form
  obtain ⟨a1, c1, rfl⟩ := P.at_.rg.form
  obtain ⟨a2, c2, rfl⟩ := P.at_.rh.form
  obtain ⟨a3, c3, rfl⟩ := P.at_.rq.form
  obtain ⟨xk, ⟨x1, x2⟩, ⟨x3, x4⟩, wv⟩ := q
  obtain ⟨wo, wc, e1⟩ := P.hu.form
  dsimp only at e1
  subst e1
  clear P hno
  have HT := Lib.hid (show TwoAt w #[.slice a0 l.length c0, .slice a1 g.length c1, .slice a2 h.length c2, .slice a3 qs.length c3] #[.int .i64 xk, .string x1, .string x2, .string x3, .string x4, .slice wo us.length wc] ((w.alloc (.cells #[.slice a0 l.length c0, .slice a1 g.length c1, .slice a2 h.length c2, .slice a3 qs.length c3] 26)).alloc (.cells #[.int .i64 xk, .string x1, .string x2, .string x3, .string x4, .slice wo us.length wc] 45))
    from ⟨(Blk.new w _ _).alloc _, (by have := Blk.new (w.alloc (.cells #[.slice a0 l.length c0, .slice a1 g.length c1, .slice a2 h.length c2, .slice a3 qs.length c3] 26)) #[.int .i64 xk, .string x1, .string x2, .string x3, .string x4, .slice wo us.length wc] 45; simpa using this), ((Below.refl _ _).alloc (Nat.le_refl _) _).alloc (by simp) _⟩)
  go_enter Tryz.func42, Tryz.ntmps42
  go_upto_region 1 with fail
  obtain ⟨wk, hwk⟩ : ∃ W, W = ((w.alloc (.cells #[.slice a0 l.length c0, .slice a1 g.length c1, .slice a2 h.length c2, .slice a3 qs.length c3] 26)).alloc (.cells #[.int .i64 xk, .string x1, .string x2, .string x3, .string x4, .slice wo us.length wc] 45)) := ⟨_, rfl⟩
  rw [← hwk] at HT ⊢
  clear hwk
  obtain ⟨ca, fa, za⟩ := HT.out.a
  obtain ⟨cb, fb, zb⟩ := HT.out.b
  go_wp2_with fail
  refine (cost_ofNo (HP.out.below HT.out.low) HN.out).mono ?_
  rintro e w1 ⟨rfl, hb1⟩
  have HT := Lib.hid (HT.out.later hb1)
  clear hb1 ca fa za cb fb zb
  have HB := Lib.hid (HT.out.low.alloc HT.out.low.size (.cells #[.int .i64 0, .int .i64 0, .int .i64 0] 131))
  go_wp2
  go_ret2
  exact ⟨rfl, HB.out⟩
set_option maxRecDepth 100000 in
set_option maxHeartbeats 8000000 in
theorem cost_States (P : SimIn w v0 v1 v2 v3 l g h qs q us PS NS) :
    Calls Tryz.prog 43 #[pv v0 v1 v2 v3, qv q] w fun e w' => e = .returned (.tuple #[.int .i64 (l.length + madeN PS.length NS.length : Nat), .bool true]) ∧ Below w.heap.size w w' := by
  skip
  have HP := Lib.hid P
  obtain ⟨a0, c0, rfl⟩ := P.at_.rs.form
  obtain ⟨a1, c1, rfl⟩ := P.at_.rg.form
  obtain ⟨a2, c2, rfl⟩ := P.at_.rh.form
  obtain ⟨a3, c3, rfl⟩ := P.at_.rq.form
  obtain ⟨xk, ⟨x1, x2⟩, ⟨x3, x4⟩, wv⟩ := q
  obtain ⟨wo, wc, e1⟩ := P.hu.form
  dsimp only at e1
  subst e1
  clear P
  have HT := Lib.hid (show TwoAt w #[.slice a0 l.length c0, .slice a1 g.length c1, .slice a2 h.length c2, .slice a3 qs.length c3] #[.int .i64 xk, .string x1, .string x2, .string x3, .string x4, .slice wo us.length wc] ((w.alloc (.cells #[.slice a0 l.length c0, .slice a1 g.length c1, .slice a2 h.length c2, .slice a3 qs.length c3] 26)).alloc (.cells #[.int .i64 xk, .string x1, .string x2, .string x3, .string x4, .slice wo us.length wc] 45))
    from ⟨(Blk.new w _ _).alloc _, (by have := Blk.new (w.alloc (.cells #[.slice a0 l.length c0, .slice a1 g.length c1, .slice a2 h.length c2, .slice a3 qs.length c3] 26)) #[.int .i64 xk, .string x1, .string x2, .string x3, .string x4, .slice wo us.length wc] 45; simpa using this), ((Below.refl _ _).alloc (Nat.le_refl _) _).alloc (by simp) _⟩)
  have h6 := HP.out.h6
  have h4 := HP.out.h4
  have hl30 := HP.out.hl
  obtain ⟨m, hm⟩ : ∃ x, madeN PS.length NS.length = x := ⟨_, rfl⟩
  have EM := Lib.hid hm
  have bm : m ≤ 17 * 17 * 12 := by rw [← hm]; exact madeN_le h6 h4
  obtain ⟨z, hzz⟩ : ∃ x, l.length + m = x := ⟨_, rfl⟩
  have s1 : IntKind.i64.wrap ((l.length : Int) + (m : Int)) = (z : Int) := by rw [show (l.length : Int) + (m : Int) = (z : Int) by omega]; exact Go.IntWalk.i64_in _ (by omega)
  clear hm
  go_enter Tryz.func43, Tryz.ntmps43
  go_upto_region 1 with fail
  obtain ⟨wk, hwk⟩ : ∃ W, W = ((w.alloc (.cells #[.slice a0 l.length c0, .slice a1 g.length c1, .slice a2 h.length c2, .slice a3 qs.length c3] 26)).alloc (.cells #[.int .i64 xk, .string x1, .string x2, .string x3, .string x4, .slice wo us.length wc] 45)) := ⟨_, rfl⟩
  rw [← hwk] at HT ⊢
  clear hwk
  obtain ⟨ca, fa, za⟩ := HT.out.a
  obtain ⟨cb, fb, zb⟩ := HT.out.b
  go_wp2_with fail
  refine (cost_of (HP.out.below HT.out.low)).mono ?_
  rintro e w1 ⟨rfl, hb1⟩
  have HT := Lib.hid (HT.out.later hb1)
  have h6 := HP.out.h6
  have h4 := HP.out.h4
  have hl30 := HP.out.hl
  clear hb1 ca fa za cb fb zb
  go_wp2_with fail
  have HT := HT.out.drew3 #[.int .i64 PS.length, .int .i64 NS.length, .int .i64 l.length] 131
  refine wp_region_held_drew (S := (fun W => ∀ o, W.cell? ⟨w1.heap.size, o, none⟩ = (#[.int .i64 PS.length, .int .i64 NS.length, .int .i64 l.length] : Array Value)[o]?)) (by kernel_rfl) HT.c.1 (fun hHeld => ?_)
  obtain ⟨wk, hwk⟩ : ∃ W, W = (w1.alloc (.cells #[.int .i64 PS.length, .int .i64 NS.length, .int .i64 l.length] 131)).drew := ⟨_, rfl⟩
  rw [← hwk] at HT hHeld ⊢
  clear hwk
  (refine held_yes (v := ?_) 0 rfl (by kernel_rfl) (by kernel_rfl) (by kernel_rfl) (fun _ _ _ h => h) (by rfl) (by assumption) ?_ ?_; rotate_left; (focus ((intro w hSw); (try dsimp only at hSw); go_simp; (try with_reducible rfl))); (try simp only [Act.put, List.setIfInBounds_toArray, List.set_cons_zero, List.set_cons_succ])); (refine held_yes (v := ?_) 1 rfl (by kernel_rfl) (by kernel_rfl) (by kernel_rfl) (fun _ _ _ h => h) (by rfl) (by assumption) ?_ ?_; rotate_left; (focus ((intro w hSw); (try dsimp only at hSw); go_simp; (try with_reducible rfl))); (try simp only [Act.put, List.setIfInBounds_toArray, List.set_cons_zero, List.set_cons_succ])); (refine held_yes (v := ?_) 2 rfl (by kernel_rfl) (by kernel_rfl) (by kernel_rfl) (fun _ _ _ h => h) (by rfl) (by assumption) ?_ ?_; rotate_left; (focus ((intro w hSw); (try dsimp only at hSw); go_simp; (try with_reducible rfl))); (try simp only [Act.put, List.setIfInBounds_toArray, List.set_cons_zero, List.set_cons_succ]))
  (refine held_call 3 rfl (by kernel_rfl) (fun K hK => ?_); go_simp)
  go_at_call 111; refine (cost_made PS.length NS.length l.length _ h6 h4).mono ?_; rintro e wz3 ⟨rfl, hbq⟩; rw [EM.out]
  have HT := HT.later hbq
  clear hbq
  (refine hK.out _ _ (HT.c.1) (fun hHeld => ?_); clear hK K; (try simp only [Act.put, List.setIfInBounds_toArray, List.set_cons_zero, List.set_cons_succ]))
  (refine held_yes (v := ?_) 4 rfl (by kernel_rfl) (by kernel_rfl) (by kernel_rfl) (fun _ _ _ h => h) (by rfl) (by assumption) ?_ ?_; rotate_left; (focus ((intro w hSw); (try dsimp only at hSw); go_simp; (try with_reducible rfl))); (try simp only [Act.put, List.setIfInBounds_toArray, List.set_cons_zero, List.set_cons_succ])); (refine held_yes (v := ?_) 5 rfl (by kernel_rfl) (by kernel_rfl) (by kernel_rfl) (fun _ _ _ h => h) (by rfl) (by assumption) ?_ ?_; rotate_left; (focus ((intro w hSw); (try dsimp only at hSw); go_simp; (try with_reducible rfl))); (try simp only [Act.put, List.setIfInBounds_toArray, List.set_cons_zero, List.set_cons_succ])); (refine held_yes (v := ?_) 6 rfl (by kernel_rfl) (by kernel_rfl) (by kernel_rfl) (fun _ _ _ h => h) (by rfl) (by assumption) ?_ ?_; rotate_left; (focus ((intro w hSw); (try dsimp only at hSw); go_simp; (try with_reducible rfl))); (try simp only [Act.put, List.setIfInBounds_toArray, List.set_cons_zero, List.set_cons_succ]))
  refine wpAnyH_done (by kernel_rfl) ?_ _
  have HZ := Lib.hid HT
  clear HT
  go_wp2
  go_ret2
  exact ⟨by rw [EM.out, hzz]; rfl, HZ.out.low⟩
set_option maxRecDepth 100000 in
set_option maxHeartbeats 8000000 in
theorem cost_StatesNo (P : SimQ w v0 v1 v2 v3 l g h qs q us) (hno : ¬ (RightP l g h [q] (fun _ => us) ∧ ¬ q.k = 6)) :
    Calls Tryz.prog 43 #[pv v0 v1 v2 v3, qv q] w fun e w' => e = .returned (.tuple #[.int .i64 0, .bool false]) ∧ Below w.heap.size w w' := by
  have HN := Lib.hid hno
  have HP := Lib.hid P
  obtain ⟨a0, c0, rfl⟩ := P.at_.rs.form
  obtain ⟨a1, c1, rfl⟩ := P.at_.rg.form
  obtain ⟨a2, c2, rfl⟩ := P.at_.rh.form
  obtain ⟨a3, c3, rfl⟩ := P.at_.rq.form
  obtain ⟨xk, ⟨x1, x2⟩, ⟨x3, x4⟩, wv⟩ := q
  obtain ⟨wo, wc, e1⟩ := P.hu.form
  dsimp only at e1
  subst e1
  clear P hno
  have HT := Lib.hid (show TwoAt w #[.slice a0 l.length c0, .slice a1 g.length c1, .slice a2 h.length c2, .slice a3 qs.length c3] #[.int .i64 xk, .string x1, .string x2, .string x3, .string x4, .slice wo us.length wc] ((w.alloc (.cells #[.slice a0 l.length c0, .slice a1 g.length c1, .slice a2 h.length c2, .slice a3 qs.length c3] 26)).alloc (.cells #[.int .i64 xk, .string x1, .string x2, .string x3, .string x4, .slice wo us.length wc] 45))
    from ⟨(Blk.new w _ _).alloc _, (by have := Blk.new (w.alloc (.cells #[.slice a0 l.length c0, .slice a1 g.length c1, .slice a2 h.length c2, .slice a3 qs.length c3] 26)) #[.int .i64 xk, .string x1, .string x2, .string x3, .string x4, .slice wo us.length wc] 45; simpa using this), ((Below.refl _ _).alloc (Nat.le_refl _) _).alloc (by simp) _⟩)
  go_enter Tryz.func43, Tryz.ntmps43
  go_upto_region 1 with fail
  obtain ⟨wk, hwk⟩ : ∃ W, W = ((w.alloc (.cells #[.slice a0 l.length c0, .slice a1 g.length c1, .slice a2 h.length c2, .slice a3 qs.length c3] 26)).alloc (.cells #[.int .i64 xk, .string x1, .string x2, .string x3, .string x4, .slice wo us.length wc] 45)) := ⟨_, rfl⟩
  rw [← hwk] at HT ⊢
  clear hwk
  obtain ⟨ca, fa, za⟩ := HT.out.a
  obtain ⟨cb, fb, zb⟩ := HT.out.b
  go_wp2_with fail
  refine (cost_ofNo (HP.out.below HT.out.low) HN.out).mono ?_
  rintro e w1 ⟨rfl, hb1⟩
  have HT := Lib.hid (HT.out.later hb1)
  clear hb1 ca fa za cb fb zb
  have HB := Lib.hid (HT.out.low.alloc HT.out.low.size (.cells #[.int .i64 0, .int .i64 0, .int .i64 0] 131))
  go_wp2
  go_ret2
  exact ⟨rfl, HB.out⟩
set_option maxRecDepth 100000 in
set_option maxHeartbeats 8000000 in
theorem cost_SpentNo (P : SimQ w v0 v1 v2 v3 l g h qs q us) (hno : ¬ (RightP l g h [q] (fun _ => us) ∧ ¬ q.k = 6)) :
    Calls Tryz.prog 44 #[pv v0 v1 v2 v3, qv q] w fun e w' => e = .returned (.tuple #[.int .i64 0, .bool false]) ∧ Below w.heap.size w w' := by
  have HN := Lib.hid hno
  have HP := Lib.hid P
  obtain ⟨a0, c0, rfl⟩ := P.at_.rs.form
  obtain ⟨a1, c1, rfl⟩ := P.at_.rg.form
  obtain ⟨a2, c2, rfl⟩ := P.at_.rh.form
  obtain ⟨a3, c3, rfl⟩ := P.at_.rq.form
  obtain ⟨xk, ⟨x1, x2⟩, ⟨x3, x4⟩, wv⟩ := q
  obtain ⟨wo, wc, e1⟩ := P.hu.form
  dsimp only at e1
  subst e1
  clear P hno
  have HT := Lib.hid (show TwoAt w #[.slice a0 l.length c0, .slice a1 g.length c1, .slice a2 h.length c2, .slice a3 qs.length c3] #[.int .i64 xk, .string x1, .string x2, .string x3, .string x4, .slice wo us.length wc] ((w.alloc (.cells #[.slice a0 l.length c0, .slice a1 g.length c1, .slice a2 h.length c2, .slice a3 qs.length c3] 26)).alloc (.cells #[.int .i64 xk, .string x1, .string x2, .string x3, .string x4, .slice wo us.length wc] 45))
    from ⟨(Blk.new w _ _).alloc _, (by have := Blk.new (w.alloc (.cells #[.slice a0 l.length c0, .slice a1 g.length c1, .slice a2 h.length c2, .slice a3 qs.length c3] 26)) #[.int .i64 xk, .string x1, .string x2, .string x3, .string x4, .slice wo us.length wc] 45; simpa using this), ((Below.refl _ _).alloc (Nat.le_refl _) _).alloc (by simp) _⟩)
  go_enter Tryz.func44, Tryz.ntmps44
  go_upto_region 1 with fail
  obtain ⟨wk, hwk⟩ : ∃ W, W = ((w.alloc (.cells #[.slice a0 l.length c0, .slice a1 g.length c1, .slice a2 h.length c2, .slice a3 qs.length c3] 26)).alloc (.cells #[.int .i64 xk, .string x1, .string x2, .string x3, .string x4, .slice wo us.length wc] 45)) := ⟨_, rfl⟩
  rw [← hwk] at HT ⊢
  clear hwk
  obtain ⟨ca, fa, za⟩ := HT.out.a
  obtain ⟨cb, fb, zb⟩ := HT.out.b
  go_wp2_with fail
  refine (sim_DecideNo _ _ _ _ l g h qs _ us _ (HP.out.below HT.out.low) HN.out).mono ?_
  rintro e w1 ⟨rfl, hb1⟩
  have HT := Lib.hid (HT.out.later hb1)
  clear hb1 ca fa za cb fb zb
  have HB := Lib.hid (HT.out.low.alloc HT.out.low.size (.cells #[.int .i64 0, .slice none 0 0, .int .i64 0, .int .i64 0] 48))
  go_wp2
  go_ret2
  exact ⟨rfl, HB.out⟩
end
end Go.Proofs.YtcmdhfccdkjenaaGreatDoor
namespace Go.Proofs.YtcmdhfccdkjenaaGreatDoor
open Go.RowKit Go.Shelf

def q13 (k : Int) (v : Value) : Qv := ⟨k, r12, noR, v⟩
section
variable {w : World} {a0 a2 : Nat} {v : Value}
end
structure Ex13 (w : World) (wx : World) : Prop where
  r : Blk wx w.heap.size #[.string ⟨#[65]⟩, .string ⟨#[114]⟩]
  p : Blk wx (w.heap.size + 1 + 1 + 1) #[.slice (some ⟨w.heap.size + 1, 0, none⟩) 1 1, .slice none 0 0, .slice (some ⟨w.heap.size + 1 + 1, 0, none⟩) 1 1, .slice none 0 0]
  low : Below w.heap.size w wx
theorem Ex13.later {w wx w' : World} (h : Ex13 w wx) (hb : Below wx.heap.size wx w') : Ex13 w w' := ⟨h.r.below hb, h.p.below hb, h.low.trans (hb.mono h.low.size)⟩
end Go.Proofs.YtcmdhfccdkjenaaGreatDoor
namespace Go.Proofs.YtcmdhfccdkjenaaGreatDoor
open Go.RowKit Go.Shelf

theorem ex29_right : RightP [s12] [] [] [q13 4 (.slice none 0 0)] (fun _ => []) := by
  have h1 : ∀ x ∈ [s12], rightS x = true := fun x hx => by rw [List.mem_singleton.1 hx]; exact ex12_right
  have h2 : ∀ x ∈ ([] : List Rl) ++ [], isRole x = true := fun x hx => by cases hx
  exact ⟨h1, h2, fun x hx => by rw [List.mem_singleton.1 hx]; kernel_rfl, by kernel_rfl, by kernel_rfl, by kernel_rfl, by kernel_rfl⟩
theorem ex29_in {w : World} {a0 : Nat} (hT : TB w) (h1 : Sl w 9 (.slice (some ⟨a0, 0, none⟩) 1 1) 1 ([s12].flatMap St.cells)) :
    SimIn w (.slice (some ⟨a0, 0, none⟩) 1 1) (.slice none 0 0) (.slice none 0 0) (.slice none 0 0) [s12] [] [] [] (q13 4 (.slice none 0 0)) [] P12 N12 := by
  have hle : ∀ s ∈ [s12], s.le 40 := fun s hs => by
    rw [List.mem_singleton.1 hs]
    simp only [s12, r12, St.le, Rl.le, noR, ByteArray.size]; decide
  have hr : r12.le 40 := ⟨by decide, by decide⟩
  have hn : noR.le 40 := ⟨by decide, by decide⟩
  refine ⟨⟨h1.a, (Sl.nil _ _).a, (Sl.nil _ _).a, (Sl.nil _ _).a, fun s hs => (hle s hs).mono (by decide), fun _ h => (by cases h), fun _ h => (by cases h), fun _ h => (by cases h)⟩, (Sl.nil _ _).a, ⟨hr.mono (by decide), hn.mono (by decide), [], (Sl.nil _ _).a, fun _ h => (by cases h)⟩, by decide, by decide, by decide, hle, fun x hx => (by cases hx), hr, hn, by decide, fun _ h => (by cases h), hT, ex29_right, ?_, ?_, ?_, by decide, by decide⟩
  · show ¬ (4 : Int) = 6
    decide
  · kernel_rfl
  · kernel_rfl
theorem ex29_States {w : World} {a0 : Nat} (hT : TB w) (h1 : Sl w 9 (.slice (some ⟨a0, 0, none⟩) 1 1) 1 ([s12].flatMap St.cells)) :
    Calls Tryz.prog 43 #[pv (.slice (some ⟨a0, 0, none⟩) 1 1) (.slice none 0 0) (.slice none 0 0) (.slice none 0 0), qv (q13 4 (.slice none 0 0))] w fun e w' => e = .returned (.tuple #[.int .i64 10, .bool true]) ∧ Below w.heap.size w w' :=
  cost_States (ex29_in hT h1)
set_option maxRecDepth 100000 in
set_option maxHeartbeats 4000000 in
theorem law29_lives (w : World) (hT : TB w) : Calls Tryz.prog 41 #[] w fun e w' => e = .returned (.bool true) ∧ Below w.heap.size w w' := by
  have HTB := Lib.hid hT
  clear hT
  go_enter Tryz.func41, Tryz.ntmps41
  go_wp2_with fail
  obtain ⟨wb, hwb⟩ : ∃ V, V = ((w.alloc (.cells #[.string ⟨#[65]⟩, .string ⟨#[114]⟩] 28)).alloc (.cells #[.int .i64 1, .string ⟨#[65]⟩, .string ⟨#[114]⟩, .string ⟨#[66]⟩, .string emp, .string emp, .string emp, .string emp, .string emp] 35)) := ⟨_, rfl⟩
  have hlow : Below w.heap.size w wb := by rw [hwb]; exact ((Below.refl _ _).alloc (Nat.le_refl _) _).alloc (by simp) _
  have HS1 := Lib.hid (show Sl wb 9 (.slice (some ⟨w.heap.size + 1, 0, none⟩) 1 1) 1 ([s12].flatMap St.cells) by
    rw [hwb]; exact Sl.new _ _ _ 9 1 (w.heap.size + 1) (by simp) rfl (by decide))
  have D := Lib.hid (ex29_States (HTB.out.below hlow) HS1.out)
  have HB := Lib.hid hlow
  rw [← hwb]
  clear hwb hlow HS1
  refine D.out.mono ?_
  rintro e w1 ⟨rfl, hb1⟩
  have HB1 := Lib.hid (HB.out.trans (hb1.mono HB.out.size))
  clear hb1 D
  go_wp2_with fail
  go_ret
  exact ⟨rfl, HB1.out⟩
end Go.Proofs.YtcmdhfccdkjenaaGreatDoor
namespace Go.Proofs.YtcmdhfccdkjenaaGreatDoor
open Go.RowKit Go.Shelf

end Go.Proofs.YtcmdhfccdkjenaaGreatDoor
namespace Go.Proofs.YtcmdhfccdkjenaaGreatDoor
open Go.RowKit Go.Shelf

def LightT (l : List ByteArray) (e : Ending) : Prop := ∃ b, e = .returned (.bool b) ∧ (b = true → l.length ≤ 40 ∧ ∀ x ∈ l, x.size ≤ 40)
set_option maxHeartbeats 1000000 in
theorem law1_LightT (va : Value) (l : List ByteArray) (w : World) (ha : SlA w 1 va l.length (strs l)) (hl : ∀ s ∈ l, s.size ≤ 9223372036854775807) :
    Calls Tryz.prog 59 #[va] w fun e w' => LightT l e ∧ w' = w := by
  have HA := Lib.hid ha
  have HL := Lib.hid hl
  have hmax := ha.max
  obtain ⟨ao, cap, hva⟩ := ha.form
  subst hva
  clear ha hl
  go_enter Tryz.func59, Tryz.ntmps59
  by_cases h40 : 40 < l.length
  · have d : decide ((40 : Int) < (l.length : Int)) = true := by (rw [decide_eq_true_iff]; omega)
    go_wp2
    go_ret
    exact ⟨⟨false, rfl, fun h => by cases h⟩, rfl⟩
  have d : decide ((40 : Int) < (l.length : Int)) = false := by (rw [decide_eq_false_iff_not]; omega)
  go_wp2
  go_loop [10] (fun i => ∃ k : Nat, k ≤ l.length ∧ i = .int .i64 k ∧ Hid (∀ j (hj : j < l.length), j < k → l[j].size ≤ 40)) (fun i => l.length - (intOf i).toNat)
  case atStart => exact ⟨0, by omega, rfl, Lib.hid (fun j hj h => absurd h (by omega))⟩
  case round =>
    obtain ⟨k, hk, rfl, HS⟩ := hrel
    by_cases hlt : k < l.length
    · obtain ⟨b1, o1, c1, he1, hc1, hm1, hb1, hx1⟩ := HA.out.pos (by omega)
      simp only [Value.slice.injEq, true_and] at he1
      obtain ⟨rfl, rfl⟩ := he1
      have p0 := hx1 k _ (strs_get hlt)
      have hsz := HL.out l[k] (List.getElem_mem hlt)
      clear hx1
      by_cases h : 40 < l[k].size
      · have d1 : decide ((40 : Int) < (l[k].size : Int)) = true := by (rw [decide_eq_true_iff]; omega)
        clear h
        go_wp2
        go_ret
        exact ⟨⟨false, rfl, fun h => by cases h⟩, rfl⟩
      · have d1 : decide ((40 : Int) < (l[k].size : Int)) = false := by (rw [decide_eq_false_iff_not]; omega)
        have HS2 := Lib.hid (show ∀ j (hj : j < l.length), j < k + 1 → l[j].size ≤ 40 from fun j hj hjk => by
          by_cases e : j = k
          · subst e; omega
          · exact HS.out j hj (by omega))
        clear h HS
        go_wp2
        exact ⟨⟨k + 1, by omega, by go_num, HS2⟩, by simp [intOf]; omega⟩
    · go_wp2
      go_ret
      exact ⟨⟨true, rfl, fun _ => ⟨by omega, fun x hx => by obtain ⟨j, hj, rfl⟩ := List.getElem_of_mem hx; exact HS.out j hj (by omega)⟩⟩, rfl⟩
end Go.Proofs.YtcmdhfccdkjenaaGreatDoor
namespace Go.Proofs.YtcmdhfccdkjenaaGreatDoor
open Go.RowKit Go.Shelf

def Qv.okS (q : Qv) (w : World) : Prop := q.okN 40 w ∧ q.a.le 40 ∧ q.b.le 40
def LightQS (q : Qv) (w : World) (e : Ending) : Prop := ∃ b, e = .returned (.bool b) ∧ (b = true → q.okS w)
theorem okS_back {q : Qv} {w W : World} (h : q.ok w) (hb : Below w.heap.size w W) (h' : q.okS W) : q.okS w := ⟨okN_back h hb h'.1, h'.2⟩
def LightV (w : World) (l : List St) (g h : List Rl) (qs : List Qv) (e : Ending) : Prop := ∃ b, e = .returned (.bool b) ∧ (b = true → (l.length ≤ 30 ∧ g.length ≤ 30 ∧ h.length ≤ 30 ∧ qs.length ≤ 30 ∧ allLe l 40 ∧ ∀ q ∈ qs, q.okS w) ∧ ∀ x ∈ g ++ h, x.le 40)
set_option maxRecDepth 100000 in
set_option maxHeartbeats 1000000 in
theorem law4_LightS (q : Qv) (w : World) (hq : q.ok w) : Calls Tryz.prog 26 #[qv q] w fun e w' => LightQS q w e ∧ Below w.heap.size w w' := by
  obtain ⟨ha, hb, ss, hs, hl⟩ := hq
  obtain ⟨k, ⟨x1, x2⟩, ⟨x3, x4⟩, wv⟩ := q
  have HS := Lib.hid (fun W h => law1_Light wv ss W h hl)
  have HQ := Lib.hid (fun (h : ss.length ≤ 40) (h4 : [x1, x2, x3, x4].length ≤ 40 ∧ ∀ x ∈ [x1, x2, x3, x4], x.size ≤ 40) => show (⟨k, ⟨x1, x2⟩, ⟨x3, x4⟩, wv⟩ : Qv).okS w from ⟨⟨ha, hb, ss, hs, h, hl⟩, ⟨h4.2 _ (by simp), h4.2 _ (by simp)⟩, ⟨h4.2 _ (by simp), h4.2 _ (by simp)⟩⟩)
  have HW := Lib.hid hs
  have H4 := Lib.hid (fun W h => law1_LightT (.slice (some ⟨w.heap.size + 1, 0, none⟩) 4 4) [x1, x2, x3, x4] W h (by
    intro s hs; simp at hs; rcases hs with rfl | rfl | rfl | rfl
    · exact ha.1
    · exact ha.2
    · exact hb.1
    · exact hb.2))
  obtain ⟨wo, wc, rfl⟩ := hs.form
  clear ha hb hl hs
  have HB := Lib.hid ((Below.refl _ w).alloc (Nat.le_refl _) (.cells #[.int .i64 k, .string x1, .string x2, .string x3, .string x4, .slice wo ss.length wc] 45))
  have HB2 := Lib.hid (HB.out.alloc HB.out.size (.cells #[.string x1, .string x2, .string x3, .string x4] 9))
  have S4 := Lib.hid (Sl.new (w.alloc (.cells #[.int .i64 k, .string x1, .string x2, .string x3, .string x4, .slice wo ss.length wc] 45)) [.string x1, .string x2, .string x3, .string x4] 9 1 4 (w.heap.size + 1) (by simp) rfl (by simp [maxLen]))
  go_enter Tryz.func26, Tryz.ntmps26
  go_wp2_with fail
  refine (HS.out _ (HW.out.below HB.out)).mono ?_
  rintro e w1 ⟨⟨b1, rfl, hb1⟩, rfl⟩
  have HB1 := Lib.hid hb1
  clear hb1
  cases b1 with
  | false =>
    go_wp2
    go_ret
    exact ⟨⟨false, rfl, fun h => by cases h⟩, HB.out⟩
  | true =>
    go_wp2_with fail
    refine (H4.out _ S4.out.a).mono ?_
    rintro e w1 ⟨⟨b2, rfl, hb2⟩, rfl⟩
    have HB4 := Lib.hid hb2
    clear hb2
    go_wp2
    go_ret
    exact ⟨⟨b2, rfl, fun h => HQ.out (HB1.out (by first | rfl | trivial)) (HB4.out h)⟩, HB2.out⟩
set_option maxRecDepth 100000 in
set_option maxHeartbeats 8000000 in
theorem law5_LightS (v0 v1 v2 v3 : Value) (l : List St) (g h : List Rl) (qs : List Qv) (w : World) (hp : PolAt w v0 v1 v2 v3 l g h qs) :
    Calls Tryz.prog 15 #[pv v0 v1 v2 v3] w fun e w' => LightV w l g h qs e ∧ Below w.heap.size w w' := by
  have HP := Lib.hid hp
  have hm0 := hp.rs.max
  have hm1 := hp.rg.max
  have hm2 := hp.rh.max
  have hm3 := hp.rq.max
  obtain ⟨a0, c0, rfl⟩ := hp.rs.form
  obtain ⟨a1, c1, rfl⟩ := hp.rg.form
  obtain ⟨a2, c2, rfl⟩ := hp.rh.form
  obtain ⟨a3, c3, rfl⟩ := hp.rq.form
  have HL := Lib.hid (fun k (hk : k < l.length) W => law3_Light l[k] W (hp.ls _ (List.getElem_mem hk)))
  have T0 := Lib.hid (show OneAt w #[.slice a0 l.length c0, .slice a1 g.length c1, .slice a2 h.length c2, .slice a3 qs.length c3] (w.alloc (.cells #[.slice a0 l.length c0, .slice a1 g.length c1, .slice a2 h.length c2, .slice a3 qs.length c3] 26)) from ⟨Blk.new w _ _, (Below.refl _ _).alloc (Nat.le_refl _) _⟩)
  clear hp
  go_enter Tryz.func15, Tryz.ntmps15
  by_cases t0 : 30 < l.length
  · have d0 : decide ((30 : Int) < (l.length : Int)) = true := by (rw [decide_eq_true_iff]; omega)
    go_wp2
    go_ret
    exact ⟨⟨false, rfl, (fun h => by cases h)⟩, T0.out.low⟩
  have d0 : decide ((30 : Int) < (l.length : Int)) = false := by (rw [decide_eq_false_iff_not]; omega)
  by_cases t1 : 30 < g.length
  · have d1 : decide ((30 : Int) < (g.length : Int)) = true := by (rw [decide_eq_true_iff]; omega)
    go_wp2
    go_ret
    exact ⟨⟨false, rfl, (fun h => by cases h)⟩, T0.out.low⟩
  have d1 : decide ((30 : Int) < (g.length : Int)) = false := by (rw [decide_eq_false_iff_not]; omega)
  by_cases t2 : 30 < h.length
  · have d2 : decide ((30 : Int) < (h.length : Int)) = true := by (rw [decide_eq_true_iff]; omega)
    go_wp2
    go_ret
    exact ⟨⟨false, rfl, (fun h => by cases h)⟩, T0.out.low⟩
  have d2 : decide ((30 : Int) < (h.length : Int)) = false := by (rw [decide_eq_false_iff_not]; omega)
  by_cases t3 : 30 < qs.length
  · have d3 : decide ((30 : Int) < (qs.length : Int)) = true := by (rw [decide_eq_true_iff]; omega)
    go_wp2
    go_ret
    exact ⟨⟨false, rfl, (fun h => by cases h)⟩, T0.out.low⟩
  have d3 : decide ((30 : Int) < (qs.length : Int)) = false := by (rw [decide_eq_false_iff_not]; omega)
  go_wp2_with fail
  clear d0 d1 d2 d3
  go_loopw [34] (fun i wr => ∃ k : Nat, k ≤ l.length ∧ i = .int .i64 k ∧ Hid (OneAt w #[.slice a0 l.length c0, .slice a1 g.length c1, .slice a2 h.length c2, .slice a3 qs.length c3] wr) ∧ Hid (∀ j (hj : j < l.length), j < k → l[j].le 40)) (fun i _ => l.length - (intOf i).toNat)
  case atStart => exact ⟨0, by omega, rfl, T0, Lib.hid (fun _ _ h => absurd h (by omega))⟩
  case round =>
    obtain ⟨k, hk, rfl, TR, HJ⟩ := hrel
    by_cases hlt : k < l.length
    · obtain ⟨b1, o1, e1, he1, hc1, hm1', hb1, hx1⟩ := HP.out.rs.pos (by omega)
      simp only [Value.slice.injEq, true_and] at he1
      obtain ⟨rfl, rfl⟩ := he1
      obtain ⟨p0, p1, p2, p3, p4, p5, p6, p7, p8⟩ := st_cell (w := wr) (fun j u hu => (TR.out.low.cell (p := ⟨b1, o1 + j, none⟩) hb1).trans (hx1 j u hu)) k hlt
      have hbr : b1 < wr.heap.size := Nat.lt_of_lt_of_le hb1 TR.out.low.size
      have HLk := Lib.hid (fun W => HL.out k hlt W)
      clear hx1
      go_wp2_with fail
      refine (HLk.out _).mono ?_
      rintro e w2 ⟨b, rfl, hle, hb2⟩
      have HLE := Lib.hid hle
      have T2 := Lib.hid ((TR.out.alloc _).later hb2)
      clear hle hb2
      cases b with
      | false =>
        go_wp2
        go_ret
        exact ⟨⟨false, rfl, (fun h => by cases h)⟩, T2.out.low⟩
      | true =>
        have HJ2 : Hid (∀ j (hj : j < l.length), j < k + 1 → l[j].le 40) := Lib.hid (fun j hj hjk => by
          by_cases h : j < k
          · exact HJ.out j hj h
          · obtain rfl : j = k := by omega
            exact HLE.out (by first | rfl | trivial))
        go_wp2
        exact ⟨⟨k + 1, by omega, by go_num, T2, HJ2⟩, by simp [intOf]; omega⟩
    · have HJ3 := Lib.hid (show allLe l 40 from fun x hx => by
        obtain ⟨j, hj, rfl⟩ := List.getElem_of_mem hx
        exact HJ.out j hj (by omega))
      obtain ⟨ca, fa, za⟩ := TR.out.a
      clear HJ HL
      go_wp2_with fail
      go_loopw [45] (fun i wr => ∃ k : Nat, k ≤ qs.length ∧ i = .int .i64 k ∧ Hid (OneAt w #[.slice a0 l.length c0, .slice a1 g.length c1, .slice a2 h.length c2, .slice a3 qs.length c3] wr) ∧ Hid (∀ j (hj : j < qs.length), j < k → qs[j].okS w)) (fun i _ => qs.length - (intOf i).toNat)
      case atStart => exact ⟨0, by omega, rfl, TR, Lib.hid (fun _ _ h => absurd h (by omega))⟩
      case round =>
        clear TR ca fa za
        obtain ⟨k, hk, rfl, TR, HQJ⟩ := hrel
        by_cases hlt : k < qs.length
        · obtain ⟨b1, o1, e1, he1, hc1, hm1', hb1, hx1⟩ := HP.out.rq.pos (by omega)
          simp only [Value.slice.injEq, true_and] at he1
          obtain ⟨rfl, rfl⟩ := he1
          obtain ⟨p0, p1, p2, p3, p4, p5⟩ := q_cell (w := wr) (fun j u hu => (TR.out.low.cell (p := ⟨b1, o1 + j, none⟩) hb1).trans (hx1 j u hu)) k hlt
          have hbr : b1 < wr.heap.size := Nat.lt_of_lt_of_le hb1 TR.out.low.size
          have hqo := HP.out.lq _ (List.getElem_mem hlt)
          have QL := Lib.hid (fun W (hb : Below w.heap.size w W) => law4_LightS qs[k] W (hqo.below hb))
          have QB := Lib.hid (fun (W : World) (hb : Below w.heap.size w W) (h : qs[k].okS W) => okS_back hqo hb h)
          have HQ2 : Hid (qs[k].okS w → ∀ j (hj : j < qs.length), j < k + 1 → qs[j].okS w) := Lib.hid (fun hpk j hj hjk => by
            by_cases h : j < k
            · exact HQJ.out j hj h
            · obtain rfl : j = k := by omega
              exact hpk)
          obtain ⟨wo, wc, hw5⟩ : ∃ a c, qs[k].w = .slice a ((hqo.2.2).choose).length c := ((hqo.2.2).choose_spec.1).form
          generalize (hqo.2.2).choose.length = nw at hw5
          have hek : qs[k] = ⟨qs[k].k, ⟨qs[k].a.o, qs[k].a.n⟩, ⟨qs[k].b.o, qs[k].b.n⟩, qs[k].w⟩ := rfl
          clear hx1 hqo
          generalize qs[k] = x at *
          obtain ⟨xk, ⟨x1, x2⟩, ⟨x3, x4⟩, xw⟩ := x
          dsimp only at hw5
          subst hw5
          clear hek
          have T2 := Lib.hid (TR.out.alloc (.cells #[.int .i64 xk, .string x1, .string x2, .string x3, .string x4, .slice wo nw wc] 45))
          go_wp2_with fail
          refine (QL.out _ T2.out.low).mono ?_
          rintro e w2 ⟨⟨b, rfl, hbq⟩, hb2⟩
          have T3 := Lib.hid (T2.out.later hb2)
          have HBQ := Lib.hid (fun h => HQ2.out (QB.out _ T2.out.low (hbq h)))
          clear hb2 hbq
          cases b with
          | false =>
            go_wp2
            go_ret
            exact ⟨⟨false, rfl, (fun h => by cases h)⟩, T3.out.low⟩
          | true =>
            go_wp2
            exact ⟨⟨k + 1, by omega, by go_num, T3, Lib.hid (HBQ.out (by first | rfl | trivial))⟩, by simp [intOf]; omega⟩
        · have HQA := Lib.hid (show ∀ q ∈ qs, q.okS w from fun q hq => by
            obtain ⟨j, hj, rfl⟩ := List.getElem_of_mem hq
            exact HQJ.out j hj (by omega))
          obtain ⟨inf, hi, hz0, hz1, hz2⟩ := info_parts rl_info'
          have HINF := Lib.hid hi
          have T2 := TR.out.drew
          have hown : (wr.drew.alloc (.cells #[] 28)).ownsRow wr.heap.size 28 2 (.slice (some ⟨wr.heap.size, 0, none⟩) 0 0) 0 [] := World.ownsRow_made wr.drew #[] 0 (Nat.le_refl _) (Nat.zero_le _) (by simp)
          have hlow : Below wr.heap.size wr (wr.drew.alloc (.cells #[] 28)) := (below_drew (Below.refl _ _)).alloc (Nat.le_refl _) _
          have T4 := TR.out.later hlow
          obtain ⟨ca, fa, za⟩ := TR.out.a
          have hza : w.heap.size < wr.heap.size := za
          clear hi fa za
          go_wp2_with fail
          go_region_held3 (fun W => ∀ o, W.cell? ⟨w.heap.size, o, none⟩ = (#[.slice a0 l.length c0, .slice a1 g.length c1, .slice a2 h.length c2, .slice a3 qs.length c3] : Array Value)[o]?)
            (first | exact T2.a.1 | exact T4.a.1 | exact T5.a.1 | exact T6.a.1 | go_keep)
            (first
              | (refine step_row rfl _ _ 23 rfl wr.heap.size 28 inf _ 2 32 Tryz.underlying23 HINF.out hz0 hz1 hz2 (Nat.le_of_ble_eq_true rfl) rfl (Nat.le_of_ble_eq_true rfl) _ 0 [] rfl hown _ g.length _ rfl (HP.out.rg.below T4.low) (rls_one _) ?_ hlow.size ?_; omega; intro a5 c5 w5 hown5 hg5; have hb5 := below_own hlow hown hg5 hlow.size (Nat.le_refl _); have T5 := TR.out.later hb5)
              | (refine step_row rfl _ _ 23 rfl wr.heap.size 28 inf _ 2 32 Tryz.underlying23 HINF.out hz0 hz1 hz2 (Nat.le_of_ble_eq_true rfl) rfl (Nat.le_of_ble_eq_true rfl) _ (0 + g.length) _ rfl hown5 _ h.length _ rfl (HP.out.rh.below T5.low) (rls_one _) ?_ hb5.size ?_; omega; intro a6 c6 w6 hown6 hg6; have hb6 := below_own hb5 hown5 hg6 hb5.size (Nat.le_refl _); have T6 := TR.out.later hb6; obtain ⟨n6, hn6⟩ : ∃ n6, n6 = 0 + g.length + h.length := ⟨_, rfl⟩; rw [← hn6] at hown6 ⊢; have HN6 := Lib.hid hn6; clear hn6))
          have HS6 := Lib.hid (show Sl w6 2 (.slice a6 n6 c6) n6 ((g ++ h).flatMap Rl.cells) by have := Sl.of_own hown6; rw [rl_flat]; simpa using this)
          have HLe := Lib.hid (show ∀ x ∈ g ++ h, x.le 9223372036854775807 from fun x hx => by
            rcases List.mem_append.1 hx with hx | hx
            · exact HP.out.lg x hx
            · exact HP.out.lh x hx)
          have HN := Lib.hid (show n6 = (g ++ h).length by rw [HN6.out, List.length_append]; omega)
          have HB6 := Lib.hid T6.low
          have hn6m : n6 ≤ 1000 := by have := HN6.out; omega
          have HGH : ∃ gh, Hid (g ++ h = gh) := ⟨_, Lib.hid rfl⟩
          obtain ⟨gh, HGH⟩ := HGH
          rw [HGH.out] at HS6 HLe HN
          clear hown5 hown6 hg5 hg6 hb5 hb6 T2 T4 T5 T6 hlow hown ca hza TR HN6
          go_wp2_with fail
          go_loopw [61] (fun i wr => ∃ k : Nat, k ≤ n6 ∧ i = .int .i64 k ∧ Hid (Below w6.heap.size w6 wr) ∧ Hid (∀ j (hj : j < gh.length), j < k → gh[j].le 40)) (fun i _ => n6 - (intOf i).toNat)
          case atStart => exact ⟨0, by omega, rfl, Lib.hid (Below.refl _ _), Lib.hid (fun _ _ h => absurd h (by omega))⟩
          case round =>
            obtain ⟨k, hk, rfl, HB, HRJ⟩ := hrel
            by_cases hlt : k < n6
            · obtain ⟨b1, o1, e1, he1, hc1, hm1', hb1, hx1⟩ := HS6.out.pos (by omega)
              simp only [Value.slice.injEq, true_and] at he1
              obtain ⟨rfl, rfl⟩ := he1
              have hlt2 : k < gh.length := by have := HN.out; omega
              obtain ⟨p0, p1⟩ := rl_cell (w := wr) (fun j u hu => (HB.out.cell (p := ⟨b1, o1 + j, none⟩) hb1).trans (hx1 j u hu)) k hlt2
              have hbr : b1 < wr.heap.size := Nat.lt_of_lt_of_le hb1 HB.out.size
              have hle := HLe.out _ (List.getElem_mem hlt2)
              have HR2 : Hid (gh[k].le 40 → ∀ j (hj : j < gh.length), j < k + 1 → gh[j].le 40) := Lib.hid (fun hpk j hj hjk => by
                by_cases h : j < k
                · exact HRJ.out j hj h
                · obtain rfl : j = k := by omega
                  exact hpk)
              clear hx1
              generalize gh[k] = x at *
              obtain ⟨x1, x2⟩ := x
              have hz1' : x1.size ≤ 9223372036854775807 := hle.1
              have hz2' : x2.size ≤ 9223372036854775807 := hle.2
              have HB2 := Lib.hid (HB.out.alloc HB.out.size (.cells #[.string x1, .string x2] 28))
              clear hle
              by_cases q1 : 40 < x1.size
              · have d1 : decide ((40 : Int) < (x1.size : Int)) = true := by (rw [decide_eq_true_iff]; omega)
                clear q1
                go_wp2
                go_ret
                exact ⟨⟨false, rfl, (fun h => by cases h)⟩, HB6.out.trans (HB2.out.mono HB6.out.size)⟩
              have d1 : decide ((40 : Int) < (x1.size : Int)) = false := by (rw [decide_eq_false_iff_not]; omega)
              have Q1 := Lib.hid q1
              clear q1
              by_cases q2 : 40 < x2.size
              · have d2 : decide ((40 : Int) < (x2.size : Int)) = true := by (rw [decide_eq_true_iff]; omega)
                clear q2
                go_wp2
                go_ret
                exact ⟨⟨false, rfl, (fun h => by cases h)⟩, HB6.out.trans (HB2.out.mono HB6.out.size)⟩
              have d2 : decide ((40 : Int) < (x2.size : Int)) = false := by (rw [decide_eq_false_iff_not]; omega)
              have HR3 := Lib.hid (HR2.out ⟨by have := Q1.out; show x1.size ≤ 40; omega, by show x2.size ≤ 40; omega⟩)
              clear q2
              go_wp2
              exact ⟨⟨k + 1, by omega, by go_num, HB2, HR3⟩, by simp [intOf]; omega⟩
            · have HR4 : Hid (∀ x ∈ g ++ h, x.le 40) := Lib.hid (by
                rw [HGH.out]
                intro x hx
                obtain ⟨j, hj, rfl⟩ := List.getElem_of_mem hx
                exact HRJ.out j hj (by have := HN.out; omega))
              go_wp2
              go_ret
              exact ⟨⟨true, rfl, (fun _ => ⟨⟨by omega, by omega, by omega, by omega, HJ3.out, HQA.out⟩, HR4.out⟩)⟩, HB6.out.trans (HB.out.mono HB6.out.size)⟩
end Go.Proofs.YtcmdhfccdkjenaaGreatDoor
namespace Go.Proofs.YtcmdhfccdkjenaaGreatDoor
open Go.RowKit Go.Shelf

theorem TwoAt.put3 {w wx : World} {B : Array Value} {z0 z1 z2 z3 : Value} (h : TwoAt w #[z0, z1, z2, z3] B wx) (x : Value) : TwoAt w #[z0, z1, z2, x] B (wx.setCell ⟨w.heap.size, 3, none⟩ x) :=
  ⟨show Blk _ _ (#[z0, z1, z2, z3].setIfInBounds 3 x) from h.a.put (by simp), h.b.far (by omega), below_put h.low (Nat.le_refl _)⟩
end Go.Proofs.YtcmdhfccdkjenaaGreatDoor
namespace Go.Proofs.YtcmdhfccdkjenaaGreatDoor
open Go.RowKit Go.Shelf

set_option maxRecDepth 100000 in
set_option maxHeartbeats 16000000 in
theorem law29_CostTells (v0 v1 v2 v3 : Value) (l : List St) (g h : List Rl) (qs : List Qv) (q : Qv) (w : World) (hp : PolAt w v0 v1 v2 v3 l g h qs) (hq : q.ok w) (hT : TB w) :
    Calls Tryz.prog 8 #[pv v0 v1 v2 v3, qv q] w fun e w' => e = .returned (.bool true) ∧ Below w.heap.size w w' := by
  have HL := Lib.hid (fun W hb => law29_lives W (hT.below (w' := W) hb))
  have HP := Lib.hid hp
  have HTB := Lib.hid hT
  have HQK := Lib.hid hq
  obtain ⟨us, hu, huz⟩ := hq.2.2
  have LP := Lib.hid (fun W hb => law5_LightS v0 v1 v2 v3 l g h qs W (hp.below (w' := W) hb))
  have LQ := Lib.hid (fun W (hb : Below w.heap.size w W) => law4_LightS q W (hq.below hb))
  have HU := Lib.hid hu
  have HUZ := Lib.hid huz
  obtain ⟨a0, c0, rfl⟩ := hp.rs.form
  obtain ⟨a1, c1, rfl⟩ := hp.rg.form
  obtain ⟨a2, c2, rfl⟩ := hp.rh.form
  obtain ⟨a3, c3, rfl⟩ := hp.rq.form
  obtain ⟨xk, ⟨x1, x2⟩, ⟨x3, x4⟩, wv⟩ := q
  obtain ⟨wo, wc, e1⟩ := hu.form
  dsimp only at e1 HU
  obtain ⟨wn, hwn⟩ : ∃ n, n = us.length := ⟨_, rfl⟩
  rw [← hwn] at e1
  subst e1
  have HWN := Lib.hid hwn
  clear hp hT hq hu huz hwn
  have HT := Lib.hid (show TwoAt w #[.slice a0 l.length c0, .slice a1 g.length c1, .slice a2 h.length c2, .slice a3 qs.length c3] #[.int .i64 xk, .string x1, .string x2, .string x3, .string x4, .slice wo wn wc] ((w.alloc (.cells #[.slice a0 l.length c0, .slice a1 g.length c1, .slice a2 h.length c2, .slice a3 qs.length c3] 26)).alloc (.cells #[.int .i64 xk, .string x1, .string x2, .string x3, .string x4, .slice wo wn wc] 45))
    from ⟨(Blk.new w _ _).alloc _, (by have := Blk.new (w.alloc (.cells #[.slice a0 l.length c0, .slice a1 g.length c1, .slice a2 h.length c2, .slice a3 qs.length c3] 26)) #[.int .i64 xk, .string x1, .string x2, .string x3, .string x4, .slice wo wn wc] 45; simpa using this), ((Below.refl _ _).alloc (Nat.le_refl _) _).alloc (by simp) _⟩)
  go_enter Tryz.func8, Tryz.ntmps8
  go_upto_region 1 with fail
  obtain ⟨wk, hwk⟩ : ∃ W, W = ((w.alloc (.cells #[.slice a0 l.length c0, .slice a1 g.length c1, .slice a2 h.length c2, .slice a3 qs.length c3] 26)).alloc (.cells #[.int .i64 xk, .string x1, .string x2, .string x3, .string x4, .slice wo wn wc] 45)) := ⟨_, rfl⟩
  rw [← hwk] at HT ⊢
  clear hwk
  obtain ⟨ca, fa, za⟩ := HT.out.a
  go_wp2_with fail
  refine (LP.out _ HT.out.low).mono ?_
  rintro e w1 ⟨⟨bp, rfl, hlp⟩, hb1⟩
  have HT := Lib.hid (HT.out.later hb1)
  have HLP := Lib.hid hlp
  clear hlp hb1 LP ca fa za
  cases bp with
  | false =>
    go_wp2_with fail
    refine (HL.out _ HT.out.low).mono ?_
    rintro e wl ⟨rfl, hbl⟩
    have TL := Lib.hid (HT.out.later hbl)
    clear hbl
    go_wp2
    go_ret
    exact ⟨rfl, TL.out.low⟩
  | true =>
  obtain ⟨⟨hl30, hg30, hh30, hq30, hl40, _⟩, hgh⟩ := HLP.out (by first | rfl | trivial)
  have HL40 := Lib.hid hl40
  have HGH := Lib.hid hgh
  clear HLP hgh hl40
  obtain ⟨cb, fb, zb⟩ := HT.out.b
  go_wp2_with fail
  refine (LQ.out _ HT.out.low).mono ?_
  rintro e w2 ⟨⟨bq, rfl, hlq⟩, hb2⟩
  have HLQ := Lib.hid (fun e => okS_back HQK.out HT.out.low (hlq e))
  have HT := Lib.hid (HT.out.later hb2)
  clear hlq hb2 LQ cb fb zb
  cases bq with
  | false =>
    go_wp2_with fail
    refine (HL.out _ HT.out.low).mono ?_
    rintro e wl ⟨rfl, hbl⟩
    have TL := Lib.hid (HT.out.later hbl)
    clear hbl
    go_wp2
    go_ret
    exact ⟨rfl, TL.out.low⟩
  | true =>
  obtain ⟨⟨_, _, ss, hss, hsl, _⟩, hqa, hqb⟩ := HLQ.out (by first | rfl | trivial)
  dsimp only at hss hqa hqb
  have hul : us.length ≤ 40 := by
    obtain ⟨o2, c2, e2⟩ := hss.form
    simp only [Value.slice.injEq] at e2
    have := HWN.out
    omega
  have HSQ := Lib.hid (show SimQ w (.slice a0 l.length c0) (.slice a1 g.length c1) (.slice a2 h.length c2) (.slice a3 qs.length c3) l g h qs ⟨xk, ⟨x1, x2⟩, ⟨x3, x4⟩, .slice wo wn wc⟩ us from ⟨HP.out, HU.out, HQK.out, hl30, hg30, hh30, HL40.out, HGH.out, hqa, hqb, hul, HUZ.out⟩)
  clear HLQ hss hsl HL40 HGH hqa hqb HWN
  by_cases hRR : RightP l g h [⟨xk, ⟨x1, x2⟩, ⟨x3, x4⟩, .slice wo wn wc⟩] (fun _ => us) ∧ ¬ xk = 6
  · have HSI := Lib.hid (HSQ.out.simIn HTB.out hRR.1 hRR.2)
    have HRP := Lib.hid hRR.1
    have k6 := hRR.2
    clear hRR
    have d6 : (xk == 6) = false := by simp [k6]
    have h6 := HSI.out.h6
    have h4 := HSI.out.h4
    obtain ⟨PS, hPS⟩ : ∃ x, newB (allPrins l g h [⟨xk, ⟨x1, x2⟩, ⟨x3, x4⟩, .slice wo wn wc⟩] (fun _ => us)) = x := ⟨_, rfl⟩
    obtain ⟨NS, hNS⟩ : ∃ x, newB (allNames l g h [⟨xk, ⟨x1, x2⟩, ⟨x3, x4⟩, .slice wo wn wc⟩]) = x := ⟨_, rfl⟩
    rw [hPS] at HSI h6
    rw [hNS] at HSI h4
    have HEP := Lib.hid hPS
    have HEN := Lib.hid hNS
    clear hPS hNS
    obtain ⟨ca, fa, za⟩ := HT.out.a
    obtain ⟨cb, fb, zb⟩ := HT.out.b
    go_wp2_with fail
    have HSI := Lib.hid (HSI.out.below HT.out.low)
    refine (cost_Bound HSI.out).mono ?_
    rintro e w4 ⟨rfl, hb4⟩
    have HT := Lib.hid (HT.out.later hb4)
    have HSI := Lib.hid (HSI.out.below hb4)
    clear hb4 ca fa za cb fb zb
    obtain ⟨ca, fa, za⟩ := HT.out.a
    obtain ⟨cb, fb, zb⟩ := HT.out.b
    go_wp2_with fail
    refine (cost_States HSI.out).mono ?_
    rintro e w5 ⟨rfl, hb5⟩
    have HT := Lib.hid (HT.out.later hb5)
    clear hb5 ca fa za cb fb zb
    obtain ⟨ca, fa, za⟩ := HT.out.a
    obtain ⟨cb, fb, zb⟩ := HT.out.b
    go_upto_region 6 with fail
    have HQ : Hid (SlA ((w5.setCell ⟨w.heap.size, 3, none⟩ (.slice (some ⟨w5.heap.size, 0, none⟩) 1 1)).alloc (.cells #[.int .i64 xk, .string x1, .string x2, .string x3, .string x4, .slice wo wn wc] 45)) 6 (.slice (some ⟨w5.heap.size, 0, none⟩) 1 1) 1 [.int .i64 xk, .string x1, .string x2, .string x3, .string x4, .slice wo wn wc]) :=
      Lib.hid (Sl.new _ [.int .i64 xk, .string x1, .string x2, .string x3, .string x4, .slice wo wn wc] 45 6 1 w5.heap.size (by simp [World.setCell]) rfl (by decide)).a
    have HT := Lib.hid ((HT.out.put3 (.slice (some ⟨w5.heap.size, 0, none⟩) 1 1)).alloc (.cells #[.int .i64 xk, .string x1, .string x2, .string x3, .string x4, .slice wo wn wc] 45))
    clear ca fa za cb fb zb
    generalize ha3 : (some ⟨w5.heap.size, 0, none⟩ : Option Addr) = ad at *
    obtain ⟨w6, hw6⟩ : ∃ W, W = (w5.setCell ⟨w.heap.size, 3, none⟩ (.slice ad 1 1)).alloc (.cells #[.int .i64 xk, .string x1, .string x2, .string x3, .string x4, .slice wo wn wc] 45) := ⟨_, rfl⟩
    rw [← hw6] at HQ HT ⊢
    clear hw6 ha3
    have HP1 := Lib.hid (PolAt.only (q := ⟨xk, ⟨x1, x2⟩, ⟨x3, x4⟩, .slice wo wn wc⟩) HP.out HT.out.low HQ.out HQK.out)
    have WF := Lib.hid (HSQ.out.whoF HT.out.low)
    have RT := Lib.hid (ref5_RightL (.slice a0 l.length c0) (.slice a1 g.length c1) (.slice a2 h.length c2) (.slice ad 1 1) l g h [⟨xk, ⟨x1, x2⟩, ⟨x3, x4⟩, .slice wo wn wc⟩] w6 HP1.out hl30 hg30 hh30 (by simp) HSQ.out.l40 (fun _ => us) WF.out (fun _ _ => HUZ.out))
    clear HQ
    obtain ⟨ca, fa, za⟩ := HT.out.a
    go_wp2_with fail
    refine RT.out.mono ?_
    rintro e w7 ⟨⟨br, rfl, hri⟩, hb7⟩
    have HT := Lib.hid (HT.out.later hb7)
    have HP1 := Lib.hid (HP1.out.below hb7)
    have WF := Lib.hid (WF.out.below hb7)
    clear hb7 RT ca fa za
    cases br with
    | false => exact absurd (hri.2 HRP.out) (by simp)
    | true =>
    clear hri
    have HPX := Lib.hid (HRP.out.polx HP1.out (HTB.out.below HT.out.low) hl30 hg30 hh30 (by simp) WF.out HSQ.out.l40)
    rw [HEP.out, HEN.out] at HPX
    clear WF HP1 HSI HRP HEP HEN HSQ
    obtain ⟨cb, fb, zb⟩ := HT.out.b
    go_wp2_with fail
    refine wp_region_held_drew (S := (fun W => ∀ o, W.cell? ⟨w.heap.size, o, none⟩ = (#[.slice a0 l.length c0, .slice a1 g.length c1, .slice a2 h.length c2, .slice ad 1 1] : Array Value)[o]?)) (by kernel_rfl) HT.out.drew.a.1 (fun hHeld => ?_)
    have HT := HT.out.drew
    have HPX := Lib.hid (HPX.out.below (below_drew (Below.refl _ w7)))
    clear cb fb zb
    obtain ⟨wk, hwk⟩ : ∃ W, W = w7.drew := ⟨_, rfl⟩
    rw [← hwk] at HT HPX hHeld ⊢
    clear hwk
    obtain ⟨p, hp⟩ : ∃ x, PS.length + 2 = x := ⟨_, rfl⟩
    obtain ⟨r, hr⟩ : ∃ x, NS.length + 1 = x := ⟨_, rfl⟩
    obtain ⟨b, hb⟩ : ∃ x, PS.length + 1 = x := ⟨_, rfl⟩
    obtain ⟨y1, f1⟩ : ∃ x, 4 * p = x := ⟨_, rfl⟩
    obtain ⟨y2, f2⟩ : ∃ x, y1 * p = x := ⟨_, rfl⟩
    obtain ⟨y3, f3⟩ : ∃ x, y2 * p = x := ⟨_, rfl⟩
    obtain ⟨y4, f4⟩ : ∃ x, y3 * r = x := ⟨_, rfl⟩
    obtain ⟨y5, f5⟩ : ∃ x, y4 * r = x := ⟨_, rfl⟩
    obtain ⟨z1, g1⟩ : ∃ x, b * b = x := ⟨_, rfl⟩
    obtain ⟨z2, g2⟩ : ∃ x, z1 * NS.length = x := ⟨_, rfl⟩
    obtain ⟨z3, g3⟩ : ∃ x, l.length + 1 + z2 = x := ⟨_, rfl⟩
    obtain ⟨y6, f6⟩ : ∃ x, y5 * z3 = x := ⟨_, rfl⟩
    obtain ⟨z4, g4⟩ : ∃ x, l.length + z2 = x := ⟨_, rfl⟩
    have em : madeN PS.length NS.length = z2 := by unfold madeN; rw [hb, g1, g2]
    have ec : costN PS.length NS.length l.length = y6 := by
      unfold costN; rw [em, hp, hr, g3, ← f6, ← f5, ← f4, ← f3, ← f2, ← f1]; simp only [Nat.mul_assoc]
    have l1 : y1 ≤ 4 * 18 := by rw [← f1]; exact Nat.mul_le_mul (Nat.le_refl _) (by omega)
    have l2 : y2 ≤ 4 * 18 * 18 := by rw [← f2]; exact Nat.mul_le_mul l1 (by omega)
    have l3 : y3 ≤ 4 * 18 * 18 * 18 := by rw [← f3]; exact Nat.mul_le_mul l2 (by omega)
    have l4 : y4 ≤ 4 * 18 * 18 * 18 * 13 := by rw [← f4]; exact Nat.mul_le_mul l3 (by omega)
    have l5 : y5 ≤ 4 * 18 * 18 * 18 * 13 * 13 := by rw [← f5]; exact Nat.mul_le_mul l4 (by omega)
    have k1 : z1 ≤ 17 * 17 := by rw [← g1]; exact Nat.mul_le_mul (by omega) (by omega)
    have k2 : z2 ≤ 17 * 17 * 12 := by rw [← g2]; exact Nat.mul_le_mul k1 h4
    have l6 : y6 ≤ 4 * 18 * 18 * 18 * 13 * 13 * 10000 := by rw [← f6]; exact Nat.mul_le_mul l5 (by omega)
    have u1 : IntKind.i64.wrap (4 * (p : Int)) = (y1 : Int) := mul_wrap (a := 4) f1 l1 (by decide)
    have u2 := mul_wrap f2 l2 (by decide)
    have u3 := mul_wrap f3 l3 (by decide)
    have u4 := mul_wrap f4 l4 (by decide)
    have u5 := mul_wrap f5 l5 (by decide)
    have u6 := mul_wrap f6 l6 (by decide)
    have s1 := mul_wrap g1 k1 (by decide)
    have s2 := mul_wrap g2 k2 (by decide)
    have t1 : (PS.length : Int) + 2 = (p : Int) := by omega
    have t2 : (NS.length : Int) + 1 = (r : Int) := by omega
    have t3 : (PS.length : Int) + 1 = (b : Int) := by omega
    have t4 : (l.length : Int) + 1 + (z2 : Int) = (z3 : Int) := by omega
    have t5 : (l.length : Int) + (z2 : Int) = (z4 : Int) := by omega
    have hz4 : z4 ≤ 100000 := by omega
    have hz3 : z3 ≤ 100000 := by omega
    have hl30b : l.length ≤ 30 := hl30
    rw [em, ec]
    clear em ec f1 f2 f3 f4 f5 f6 g1 g2 g3 g4 l2 l3 l4 l5 hp hr hb
    (refine held_yes (v := ?_) 0 rfl (by kernel_rfl) (by kernel_rfl) (by kernel_rfl) (fun _ _ _ h => h) (by rfl) (by assumption) ?_ ?_; rotate_left; (focus ((intro w hSw); (try dsimp only at hSw); go_simp; (try with_reducible rfl))); (try simp only [Act.put, List.setIfInBounds_toArray, List.set_cons_zero, List.set_cons_succ])); (refine held_yes (v := ?_) 3 rfl (by kernel_rfl) (by kernel_rfl) (by kernel_rfl) (fun _ _ _ h => h) (by rfl) (by assumption) ?_ ?_; rotate_left; (focus ((intro w hSw); (try dsimp only at hSw); go_simp; (try with_reducible rfl))); (try simp only [Act.put, List.setIfInBounds_toArray, List.set_cons_zero, List.set_cons_succ])); (refine held_yes (v := ?_) 6 rfl (by kernel_rfl) (by kernel_rfl) (by kernel_rfl) (fun _ _ _ h => h) (by rfl) (by assumption) ?_ ?_; rotate_left; (focus ((intro w hSw); (try dsimp only at hSw); go_simp; (try with_reducible rfl))); (try simp only [Act.put, List.setIfInBounds_toArray, List.set_cons_zero, List.set_cons_succ])); (refine held_yes (v := ?_) 7 rfl (by kernel_rfl) (by kernel_rfl) (by kernel_rfl) (fun _ _ _ h => h) (by rfl) (by assumption) ?_ ?_; rotate_left; (focus ((intro w hSw); (try dsimp only at hSw); go_simp; (try with_reducible rfl))); (try simp only [Act.put, List.setIfInBounds_toArray, List.set_cons_zero, List.set_cons_succ])); (refine held_yes (v := ?_) 8 rfl (by kernel_rfl) (by kernel_rfl) (by kernel_rfl) (fun _ _ _ h => h) (by rfl) (by assumption) ?_ ?_; rotate_left; (focus ((intro w hSw); (try dsimp only at hSw); go_simp; (try with_reducible rfl))); (try simp only [Act.put, List.setIfInBounds_toArray, List.set_cons_zero, List.set_cons_succ]))
    (refine held_call 1 rfl (by kernel_rfl) (fun K hK => ?_); go_simp)
    go_at_call 45; refine (ref5_PrinsX HPX.out).mono ?_; rintro e wz1 ⟨vp, rfl, ho6, hbq⟩; obtain ⟨pa, pc, rfl⟩ := own_form ho6; clear ho6
    have HT := HT.later hbq
    have HPX := Lib.hid (HPX.out.below hbq)
    clear hbq
    (refine hK.out _ _ (HT.a.1) (fun hHeld => ?_); clear hK K; (try simp only [Act.put, List.setIfInBounds_toArray, List.set_cons_zero, List.set_cons_succ]))
    (refine held_yes (v := ?_) 2 rfl (by kernel_rfl) (by kernel_rfl) (by kernel_rfl) (fun _ _ _ h => h) (by rfl) (by assumption) ?_ ?_; rotate_left; (focus ((intro w hSw); (try dsimp only at hSw); go_simp; (try with_reducible rfl))); (try simp only [Act.put, List.setIfInBounds_toArray, List.set_cons_zero, List.set_cons_succ]))
    (refine held_call 4 rfl (by kernel_rfl) (fun K hK => ?_); go_simp)
    go_at_call 46; refine (ref5_NamesX HPX.out).mono ?_; rintro e wz4 ⟨vn, rfl, ho7, hbq⟩; obtain ⟨na, nc, rfl⟩ := own_form ho7; clear ho7
    have HT := HT.later hbq
    have HPX := Lib.hid (HPX.out.below hbq)
    clear hbq
    (refine hK.out _ _ (HT.a.1) (fun hHeld => ?_); clear hK K; (try simp only [Act.put, List.setIfInBounds_toArray, List.set_cons_zero, List.set_cons_succ]))
    (refine held_yes (v := ?_) 5 rfl (by kernel_rfl) (by kernel_rfl) (by kernel_rfl) (fun _ _ _ h => h) (by rfl) (by assumption) ?_ ?_; rotate_left; (focus ((intro w hSw); (try dsimp only at hSw); go_simp; (try with_reducible rfl))); (try simp only [Act.put, List.setIfInBounds_toArray, List.set_cons_zero, List.set_cons_succ])); (refine held_yes (v := ?_) 9 rfl (by kernel_rfl) (by kernel_rfl) (by kernel_rfl) (fun _ _ _ h => h) (by rfl) (by assumption) ?_ ?_; rotate_left; (focus ((intro w hSw); (try dsimp only at hSw); go_simp; (try with_reducible rfl))); (try simp only [Act.put, List.setIfInBounds_toArray, List.set_cons_zero, List.set_cons_succ])); (refine held_yes (v := ?_) 10 rfl (by kernel_rfl) (by kernel_rfl) (by kernel_rfl) (fun _ _ _ h => h) (by rfl) (by assumption) ?_ ?_; rotate_left; (focus ((intro w hSw); (try dsimp only at hSw); go_simp; (try with_reducible rfl))); (try simp only [Act.put, List.setIfInBounds_toArray, List.set_cons_zero, List.set_cons_succ])); (refine held_yes (v := ?_) 11 rfl (by kernel_rfl) (by kernel_rfl) (by kernel_rfl) (fun _ _ _ h => h) (by rfl) (by assumption) ?_ ?_; rotate_left; (focus ((intro w hSw); (try dsimp only at hSw); go_simp; (try with_reducible rfl))); (try simp only [Act.put, List.setIfInBounds_toArray, List.set_cons_zero, List.set_cons_succ]))
    refine wpAnyH_done (by kernel_rfl) ?_ _
    have HTr := Lib.hid HT
    clear HT
    have HT := HTr
    clear HTr HPX
    go_wp2_with fail
    refine (HL.out _ HT.out.low).mono ?_
    rintro e wl ⟨rfl, hbl⟩
    have TL := Lib.hid (HT.out.later hbl)
    clear hbl
    go_wp2
    go_ret
    exact ⟨rfl, TL.out.low⟩
  · have HNO := Lib.hid hRR
    clear hRR
    obtain ⟨ca, fa, za⟩ := HT.out.a
    obtain ⟨cb, fb, zb⟩ := HT.out.b
    go_wp2_with fail
    refine (cost_BoundNo (HSQ.out.below HT.out.low) HNO.out).mono ?_
    rintro e w4 ⟨rfl, hb4⟩
    have HT := Lib.hid (HT.out.later hb4)
    clear hb4 ca fa za cb fb zb
    obtain ⟨ca, fa, za⟩ := HT.out.a
    obtain ⟨cb, fb, zb⟩ := HT.out.b
    go_wp2_with fail
    refine (cost_StatesNo (HSQ.out.below HT.out.low) HNO.out).mono ?_
    rintro e w5 ⟨rfl, hb5⟩
    have HT := Lib.hid (HT.out.later hb5)
    clear hb5 ca fa za cb fb zb
    obtain ⟨ca, fa, za⟩ := HT.out.a
    obtain ⟨cb, fb, zb⟩ := HT.out.b
    go_upto_region 6 with fail
    have HQ : Hid (SlA ((w5.setCell ⟨w.heap.size, 3, none⟩ (.slice (some ⟨w5.heap.size, 0, none⟩) 1 1)).alloc (.cells #[.int .i64 xk, .string x1, .string x2, .string x3, .string x4, .slice wo wn wc] 45)) 6 (.slice (some ⟨w5.heap.size, 0, none⟩) 1 1) 1 [.int .i64 xk, .string x1, .string x2, .string x3, .string x4, .slice wo wn wc]) :=
      Lib.hid (Sl.new _ [.int .i64 xk, .string x1, .string x2, .string x3, .string x4, .slice wo wn wc] 45 6 1 w5.heap.size (by simp [World.setCell]) rfl (by decide)).a
    have HT := Lib.hid ((HT.out.put3 (.slice (some ⟨w5.heap.size, 0, none⟩) 1 1)).alloc (.cells #[.int .i64 xk, .string x1, .string x2, .string x3, .string x4, .slice wo wn wc] 45))
    clear ca fa za cb fb zb
    generalize ha3 : (some ⟨w5.heap.size, 0, none⟩ : Option Addr) = ad at *
    obtain ⟨w6, hw6⟩ : ∃ W, W = (w5.setCell ⟨w.heap.size, 3, none⟩ (.slice ad 1 1)).alloc (.cells #[.int .i64 xk, .string x1, .string x2, .string x3, .string x4, .slice wo wn wc] 45) := ⟨_, rfl⟩
    rw [← hw6] at HQ HT ⊢
    clear hw6 ha3
    have HP1 := Lib.hid (PolAt.only (q := ⟨xk, ⟨x1, x2⟩, ⟨x3, x4⟩, .slice wo wn wc⟩) HP.out HT.out.low HQ.out HQK.out)
    have WF := Lib.hid (HSQ.out.whoF HT.out.low)
    have RT := Lib.hid (ref5_RightL (.slice a0 l.length c0) (.slice a1 g.length c1) (.slice a2 h.length c2) (.slice ad 1 1) l g h [⟨xk, ⟨x1, x2⟩, ⟨x3, x4⟩, .slice wo wn wc⟩] w6 HP1.out hl30 hg30 hh30 (by simp) HSQ.out.l40 (fun _ => us) WF.out (fun _ _ => HUZ.out))
    clear HQ
    obtain ⟨ca, fa, za⟩ := HT.out.a
    go_wp2_with fail
    refine RT.out.mono ?_
    rintro e w7 ⟨⟨br, rfl, hri⟩, hb7⟩
    have HT := Lib.hid (HT.out.later hb7)
    have HP1 := Lib.hid (HP1.out.below hb7)
    have WF := Lib.hid (WF.out.below hb7)
    clear hb7 RT ca fa za
    have HSQ2 := Lib.hid (show SimQ w7 (.slice a0 l.length c0) (.slice a1 g.length c1) (.slice a2 h.length c2) (.slice ad 1 1) l g h [⟨xk, ⟨x1, x2⟩, ⟨x3, x4⟩, .slice wo wn wc⟩] ⟨xk, ⟨x1, x2⟩, ⟨x3, x4⟩, .slice wo wn wc⟩ us from ⟨HP1.out, HSQ.out.hu.below HT.out.low, HQK.out.below HT.out.low, hl30, hg30, hh30, HSQ.out.l40, HSQ.out.gh, HSQ.out.qa, HSQ.out.qb, HSQ.out.ul, HSQ.out.uz⟩)
    clear HP1 WF
    cases br with
    | false =>
      clear hri
      obtain ⟨ca, fa, za⟩ := HT.out.a
      obtain ⟨cb, fb, zb⟩ := HT.out.b
      go_wp2_with fail
      refine (cost_SpentNo HSQ2.out HNO.out).mono ?_
      rintro e w8 ⟨rfl, hb8⟩
      have HT := Lib.hid (HT.out.later hb8)
      clear hb8 ca fa za cb fb zb
      go_wp2_with fail
      refine (HL.out _ HT.out.low).mono ?_
      rintro e wl ⟨rfl, hbl⟩
      have TL := Lib.hid (HT.out.later hbl)
      clear hbl
      go_wp2
      go_ret
      exact ⟨rfl, TL.out.low⟩
    | true =>
      have hk : xk = 6 := Decidable.byContradiction (fun hn => HNO.out ⟨hri.1 rfl, hn⟩)
      have SP := Lib.hid (cost_SpentNo HSQ2.out HNO.out)
      clear hri HSQ2 HNO
      subst hk
      obtain ⟨ca, fa, za⟩ := HT.out.a
      obtain ⟨cb, fb, zb⟩ := HT.out.b
      go_wp2_with fail
      refine SP.out.mono ?_
      rintro e w8 ⟨rfl, hb8⟩
      have HT := Lib.hid (HT.out.later hb8)
      clear hb8 ca fa za cb fb zb
      go_wp2_with fail
      refine (HL.out _ HT.out.low).mono ?_
      rintro e wl ⟨rfl, hbl⟩
      have TL := Lib.hid (HT.out.later hbl)
      clear hbl
      go_wp2
      go_ret
      exact ⟨rfl, TL.out.low⟩
end Go.Proofs.YtcmdhfccdkjenaaGreatDoor
