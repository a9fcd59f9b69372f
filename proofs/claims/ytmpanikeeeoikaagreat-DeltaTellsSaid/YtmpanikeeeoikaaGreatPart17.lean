/- Whether two rows of texts, two queries, two policies are the same: of the same ones. The document's example of layer 32. -/
import Derived.Test.YtmpanikeeeoikaaGreatPart11
import Derived.Test.YtmpanikeeeoikaaGreatPart8
import Derived.Test.YtmpanikeeeoikaaGreatPart12
import Derived.Test.YtmpanikeeeoikaaGreatPart15
import Derived.Test.YtmpanikeeeoikaaGreatPart16
namespace Go.Proofs.YtmpanikeeeoikaaGreat
open Go.RowKit Go.Shelf

set_option maxRecDepth 100000 in
set_option maxHeartbeats 1000000 in
theorem ref1_SameT (va vb : Value) (l : List ByteArray) (w : World) (ha : SlA w 1 va l.length (strs l)) (hb : SlA w 1 vb l.length (strs l)) :
    Calls Tryz.prog 16 #[va, vb] w fun e w' => e = .returned (.bool true) ∧ ∃ n, w' = w.drewN n := by
  have hmax := ha.max
  have hne : ((l.length : Int) != (l.length : Int)) = false := by simp
  by_cases h0 : 0 < l.length
  · obtain ⟨b1, o1, c1, rfl, hc1, hm1, _, hx1⟩ := ha.pos h0
    obtain ⟨b2, o2, c2, rfl, hc2, hm2, _, hx2⟩ := hb.pos h0
    have HX1 := Lib.hid hx1
    have HX2 := Lib.hid hx2
    clear ha hb hx1 hx2
    go_enter Tryz.func16, Tryz.ntmps16
    go_wp2
    go_loopw [13] (fun i wr => ∃ k n : Nat, k ≤ l.length ∧ i = .int .i64 k ∧ wr = w.drewN n) (fun i _ => l.length - (intOf i).toNat)
    case atStart => exact ⟨0, 0, by omega, rfl, rfl⟩
    case round =>
      obtain ⟨k, n, hk, rfl, rfl⟩ := hrel
      by_cases hlt : k < l.length
      · have p0 := HX1.out k _ (strs_get hlt)
        have q0 := HX2.out k _ (strs_get hlt)
        go_wp2_with fail
        go_quiet (fail)
        go_wp2
        exact ⟨⟨k + 1, n + nq, by omega, by go_num, rfl⟩, by simp [intOf]; omega⟩
      · go_wp2
        go_ret
        exact ⟨rfl, n, rfl⟩
  · obtain ⟨a1, c1, rfl⟩ := ha.form
    obtain ⟨a2, c2, rfl⟩ := hb.form
    obtain rfl : l = [] := List.eq_nil_of_length_eq_zero (by omega)
    clear ha hb h0 hmax
    go_enter Tryz.func16, Tryz.ntmps16
    go_wp2
    go_loopw [13] (fun i wr => i = .int .i64 0 ∧ wr = w) (fun _ _ => 0)
    case atStart => exact ⟨rfl, rfl⟩
    case round =>
      obtain ⟨rfl, rfl⟩ := hrel
      go_wp2
      go_ret
      exact ⟨rfl, 0, rfl⟩
theorem ref1_SameB (va vb : Value) (l : List ByteArray) (w : World) (ha : SlA w 1 va l.length (strs l)) (hb : SlA w 1 vb l.length (strs l)) :
    Calls Tryz.prog 16 #[va, vb] w fun e w' => e = .returned (.bool true) ∧ Below w.heap.size w w' :=
  (ref1_SameT va vb l w ha hb).mono fun e w' ⟨he, n, hn⟩ => ⟨he, by rw [hn]; exact below_of_drewN n⟩
set_option maxRecDepth 100000 in
set_option maxHeartbeats 4000000 in
theorem ref4_SameT (q : Qv) (w : World) (hq : q.ok w) : Calls Tryz.prog 57 #[qv q, qv q] w fun e w' => e = .returned (.bool true) ∧ Below w.heap.size w w' := by
  obtain ⟨_, _, ss, hs, _⟩ := hq
  have hEq := role_eql
  obtain ⟨k, ⟨x1, x2⟩, ⟨x3, x4⟩, wv⟩ := q
  have SS := Lib.hid (fun W (hb : Below w.heap.size w W) => ref1_SameB wv wv ss W (hs.below hb) (hs.below hb))
  obtain ⟨wo, wc, rfl⟩ := hs.form
  have d1 : eqRl ⟨x1, x2⟩ ⟨x1, x2⟩ = true := decide_eq_true rfl
  have d2 : eqRl ⟨x3, x4⟩ ⟨x3, x4⟩ = true := decide_eq_true rfl
  have HT := Lib.hid (TwoAt.new w #[.int .i64 k, .string x1, .string x2, .string x3, .string x4, .slice wo ss.length wc] #[.int .i64 k, .string x1, .string x2, .string x3, .string x4, .slice wo ss.length wc] 55 55)
  clear hs
  go_enter Tryz.func57, Tryz.ntmps57
  go_wp2_with fail
  refine (SS.out _ HT.out.low).mono ?_
  rintro e w1 ⟨rfl, hb⟩
  have HT := Lib.hid (HT.out.later hb)
  clear hb
  go_wp2
  go_ret
  exact ⟨rfl, HT.out.low⟩
set_option maxRecDepth 100000 in
set_option maxHeartbeats 4000000 in
theorem ref4_SameAllT (v : Value) (qs : List Qv) (w : World) (ha : SlA w 6 v qs.length (qs.flatMap Qv.cells)) (hq : ∀ x ∈ qs, x.ok w) :
    Calls Tryz.prog 31 #[v, v] w fun e w' => e = .returned (.bool true) ∧ Below w.heap.size w w' := by
  have hmax := ha.max
  have hne : ((qs.length : Int) != (qs.length : Int)) = false := by simp
  have HA := Lib.hid ha
  have SQ := Lib.hid (fun k (hk : k < qs.length) W (hb : Below w.heap.size w W) => ref4_SameT qs[k] W ((hq _ (List.getElem_mem hk)).below hb))
  obtain ⟨ao, cap, rfl⟩ := ha.form
  clear ha
  go_enter Tryz.func31, Tryz.ntmps31
  go_wp2
  go_loopw [13] (fun i wr => ∃ k : Nat, k ≤ qs.length ∧ i = .int .i64 k ∧ Hid (Below w.heap.size w wr)) (fun i _ => qs.length - (intOf i).toNat)
  case atStart => exact ⟨0, by omega, rfl, Lib.hid (Below.refl _ _)⟩
  case round =>
    obtain ⟨k, hk, rfl, HB⟩ := hrel
    by_cases hlt : k < qs.length
    · obtain ⟨b1, o1, c1, he1, hc1, hm1, hb1, hx1⟩ := HA.out.pos (by omega)
      simp only [Value.slice.injEq, true_and] at he1
      obtain ⟨rfl, rfl⟩ := he1
      obtain ⟨p0, p1, p2, p3, p4, p5⟩ := q_cell (w := wr) (fun j u hu => (HB.out.cell (p := ⟨b1, o1 + j, none⟩) hb1).trans (hx1 j u hu)) k hlt
      have hbr : b1 < wr.heap.size := Nat.lt_of_lt_of_le hb1 HB.out.size
      have SK := Lib.hid (fun W hb => SQ.out k hlt W hb)
      obtain ⟨_, _, ss, hs, _⟩ := hq _ (List.getElem_mem hlt)
      obtain ⟨wo, wc, hw5⟩ := hs.form
      clear hx1 hs
      generalize qs[k] = x at *
      obtain ⟨xk, ⟨x1, x2⟩, ⟨x3, x4⟩, xw⟩ := x
      dsimp only at hw5
      subst hw5
      have HP := Lib.hid (⟨p0, p1, p2, p3, p4, p5⟩ : wr.cell? ⟨b1, o1 + k * 6, none⟩ = some (.int .i64 xk) ∧ wr.cell? ⟨b1, o1 + k * 6 + 1, none⟩ = some (.string x1) ∧ wr.cell? ⟨b1, o1 + k * 6 + 2, none⟩ = some (.string x2) ∧ wr.cell? ⟨b1, o1 + k * 6 + 3, none⟩ = some (.string x3) ∧ wr.cell? ⟨b1, o1 + k * 6 + 4, none⟩ = some (.string x4) ∧ wr.cell? ⟨b1, o1 + k * 6 + 5, none⟩ = some (.slice wo ss.length wc))
      clear p0 p1 p2 p3 p4 p5
      have HS : ∀ W, Below wr.heap.size wr W → W.cell? ⟨b1, o1 + k * 6, none⟩ = some (.int .i64 xk) ∧ W.cell? ⟨b1, o1 + k * 6 + 1, none⟩ = some (.string x1) ∧ W.cell? ⟨b1, o1 + k * 6 + 2, none⟩ = some (.string x2) ∧ W.cell? ⟨b1, o1 + k * 6 + 3, none⟩ = some (.string x3) ∧ W.cell? ⟨b1, o1 + k * 6 + 4, none⟩ = some (.string x4) ∧ W.cell? ⟨b1, o1 + k * 6 + 5, none⟩ = some (.slice wo ss.length wc) := fun W hb =>
        ⟨(hb.cell (p := ⟨b1, _, none⟩) hbr).trans HP.out.1, (hb.cell (p := ⟨b1, _, none⟩) hbr).trans HP.out.2.1, (hb.cell (p := ⟨b1, _, none⟩) hbr).trans HP.out.2.2.1, (hb.cell (p := ⟨b1, _, none⟩) hbr).trans HP.out.2.2.2.1, (hb.cell (p := ⟨b1, _, none⟩) hbr).trans HP.out.2.2.2.2.1, (hb.cell (p := ⟨b1, _, none⟩) hbr).trans HP.out.2.2.2.2.2⟩
      have HS := Lib.hid HS
      go_wp2_with fail
      refine wp_region_held_drew (S := (fun W => W.cell? ⟨b1, o1 + k * 6, none⟩ = some (.int .i64 xk) ∧ W.cell? ⟨b1, o1 + k * 6 + 1, none⟩ = some (.string x1) ∧ W.cell? ⟨b1, o1 + k * 6 + 2, none⟩ = some (.string x2) ∧ W.cell? ⟨b1, o1 + k * 6 + 3, none⟩ = some (.string x3) ∧ W.cell? ⟨b1, o1 + k * 6 + 4, none⟩ = some (.string x4) ∧ W.cell? ⟨b1, o1 + k * 6 + 5, none⟩ = some (.slice wo ss.length wc))) (by kernel_rfl) (HS.out _ (below_drew (Below.refl _ _))) (fun hHeld => ?_)
      (refine held_yes (v := ?_) 0 rfl (by kernel_rfl) (by kernel_rfl) (by kernel_rfl) (fun _ _ _ h => h) (by rfl) (by assumption) ?_ ?_; rotate_left; focus ((intro w hSw); (try dsimp only at hSw); go_simp; (try with_reducible rfl)); (try simp only [Act.put, List.setIfInBounds_toArray, List.set_cons_zero, List.set_cons_succ])); (refine held_yes (v := ?_) 1 rfl (by kernel_rfl) (by kernel_rfl) (by kernel_rfl) (fun _ _ _ h => h) (by rfl) (by assumption) ?_ ?_; rotate_left; focus ((intro w hSw); (try dsimp only at hSw); go_simp; (try with_reducible rfl)); (try simp only [Act.put, List.setIfInBounds_toArray, List.set_cons_zero, List.set_cons_succ])); (refine held_yes (v := ?_) 2 rfl (by kernel_rfl) (by kernel_rfl) (by kernel_rfl) (fun _ _ _ h => h) (by rfl) (by assumption) ?_ ?_; rotate_left; focus ((intro w hSw); (try dsimp only at hSw); go_simp; (try with_reducible rfl)); (try simp only [Act.put, List.setIfInBounds_toArray, List.set_cons_zero, List.set_cons_succ])); (refine held_yes (v := ?_) 3 rfl (by kernel_rfl) (by kernel_rfl) (by kernel_rfl) (fun _ _ _ h => h) (by rfl) (by assumption) ?_ ?_; rotate_left; focus ((intro w hSw); (try dsimp only at hSw); go_simp; (try with_reducible rfl)); (try simp only [Act.put, List.setIfInBounds_toArray, List.set_cons_zero, List.set_cons_succ])); (refine held_yes (v := ?_) 4 rfl (by kernel_rfl) (by kernel_rfl) (by kernel_rfl) (fun _ _ _ h => h) (by rfl) (by assumption) ?_ ?_; rotate_left; focus ((intro w hSw); (try dsimp only at hSw); go_simp; (try with_reducible rfl)); (try simp only [Act.put, List.setIfInBounds_toArray, List.set_cons_zero, List.set_cons_succ])); (refine held_yes (v := ?_) 5 rfl (by kernel_rfl) (by kernel_rfl) (by kernel_rfl) (fun _ _ _ h => h) (by rfl) (by assumption) ?_ ?_; rotate_left; focus ((intro w hSw); (try dsimp only at hSw); go_simp; (try with_reducible rfl)); (try simp only [Act.put, List.setIfInBounds_toArray, List.set_cons_zero, List.set_cons_succ])); (refine held_yes (v := ?_) 6 rfl (by kernel_rfl) (by kernel_rfl) (by kernel_rfl) (fun _ _ _ h => h) (by rfl) (by assumption) ?_ ?_; rotate_left; focus ((intro w hSw); (try dsimp only at hSw); go_simp; (try with_reducible rfl)); (try simp only [Act.put, List.setIfInBounds_toArray, List.set_cons_zero, List.set_cons_succ])); (refine held_yes (v := ?_) 7 rfl (by kernel_rfl) (by kernel_rfl) (by kernel_rfl) (fun _ _ _ h => h) (by rfl) (by assumption) ?_ ?_; rotate_left; focus ((intro w hSw); (try dsimp only at hSw); go_simp; (try with_reducible rfl)); (try simp only [Act.put, List.setIfInBounds_toArray, List.set_cons_zero, List.set_cons_succ]))
      (refine held_call 8 rfl (by kernel_rfl) (fun K hK => ?_); go_simp)
      go_at_call 57; refine (SK.out _ (below_drew HB.out)).mono ?_; rintro e w2 ⟨rfl, hb2⟩
      have hb3 := (below_drew (Below.refl wr.heap.size wr)).trans (hb2.mono (below_drew (Below.refl wr.heap.size wr)).size)
      have HB2 := Lib.hid (HB.out.trans (hb3.mono HB.out.size))
      have HS2 := HS.out _ hb3
      clear hb2 hb3
      (refine hK.out _ _ (HS2) (fun hHeld => ?_); clear hK K; (try simp only [Act.put, List.setIfInBounds_toArray, List.set_cons_zero, List.set_cons_succ]))
      clear HS2
      (refine held_yes (v := ?_) 9 rfl (by kernel_rfl) (by kernel_rfl) (by kernel_rfl) (fun _ _ _ h => h) (by rfl) (by assumption) ?_ ?_; rotate_left; focus ((intro w hSw); (try dsimp only at hSw); go_simp; (try with_reducible rfl)); (try simp only [Act.put, List.setIfInBounds_toArray, List.set_cons_zero, List.set_cons_succ]))
      refine wpAnyH_done (by kernel_rfl) ?_ _
      go_wp2
      exact ⟨⟨k + 1, by omega, by go_num, HB2⟩, by simp [intOf]; omega⟩
    · go_wp2
      go_ret
      exact ⟨rfl, HB.out⟩
set_option maxRecDepth 100000 in
set_option maxHeartbeats 4000000 in
/-- Policies of the same rows, and the same queries. -/
theorem ref5_SameT (v0 v1 v2 u0 u1 u2 v3 : Value) (l : List St) (g h : List Rl) (qs : List Qv) (w : World) (h0 : SlA w 9 v0 l.length (l.flatMap St.cells)) (h1 : SlA w 2 v1 g.length (g.flatMap Rl.cells)) (h2 : SlA w 2 v2 h.length (h.flatMap Rl.cells))
    (k0 : SlA w 9 u0 l.length (l.flatMap St.cells)) (k1 : SlA w 2 u1 g.length (g.flatMap Rl.cells)) (k2 : SlA w 2 u2 h.length (h.flatMap Rl.cells)) (h3 : SlA w 6 v3 qs.length (qs.flatMap Qv.cells)) (hq : ∀ x ∈ qs, x.ok w) :
    Calls Tryz.prog 13 #[pv v0 v1 v2 v3, pv u0 u1 u2 v3] w fun e w' => e = .returned (.bool true) ∧ Below w.heap.size w w' := by
  have C0 := Lib.hid (fun W (hb : Below w.heap.size w W) => ref3_SameB v0 u0 l l W (h0.below hb) (k0.below hb))
  have C1 := Lib.hid (fun W (hb : Below w.heap.size w W) => ref3_SameRolesE v1 u1 g g W (h1.below hb) (k1.below hb))
  have C2 := Lib.hid (fun W (hb : Below w.heap.size w W) => ref3_SameRolesE v2 u2 h h W (h2.below hb) (k2.below hb))
  have C3 := Lib.hid (fun W (hb : Below w.heap.size w W) => ref4_SameAllT v3 qs W (h3.below hb) (fun x hx => (hq x hx).below hb))
  rw [decide_eq_true (rfl : l = l)] at C0
  rw [decide_eq_true (rfl : g = g)] at C1
  rw [decide_eq_true (rfl : h = h)] at C2
  obtain ⟨a0, c0, rfl⟩ := h0.form
  obtain ⟨a1, c1, rfl⟩ := h1.form
  obtain ⟨a2, c2, rfl⟩ := h2.form
  obtain ⟨a3, c3, rfl⟩ := h3.form
  obtain ⟨b0, d0, rfl⟩ := k0.form
  obtain ⟨b1, d1, rfl⟩ := k1.form
  obtain ⟨b2, d2, rfl⟩ := k2.form
  have HT := Lib.hid (TwoAt.new w #[.slice a0 l.length c0, .slice a1 g.length c1, .slice a2 h.length c2, .slice a3 qs.length c3] #[.slice b0 l.length d0, .slice b1 g.length d1, .slice b2 h.length d2, .slice a3 qs.length c3] 26 26)
  clear h0 h1 h2 h3 k0 k1 k2 hq
  go_enter Tryz.func13, Tryz.ntmps13
  go_wp2_with fail
  refine (C0.out _ HT.out.low).mono ?_
  rintro e w0 ⟨rfl, hb⟩
  have HT := Lib.hid (HT.out.later hb)
  clear hb C0
  obtain ⟨ca, fa, za⟩ := HT.out.a
  obtain ⟨cb, fb, zb⟩ := HT.out.b
  go_wp2_with fail
  refine (C1.out _ HT.out.low).mono ?_
  rintro e w1 ⟨rfl, hb⟩
  have HT := Lib.hid (HT.out.later hb)
  clear hb C1 ca fa za cb fb zb
  obtain ⟨ca, fa, za⟩ := HT.out.a
  obtain ⟨cb, fb, zb⟩ := HT.out.b
  go_wp2_with fail
  refine (C2.out _ HT.out.low).mono ?_
  rintro e w2 ⟨rfl, hb⟩
  have HT := Lib.hid (HT.out.later hb)
  clear hb C2 ca fa za cb fb zb
  obtain ⟨ca, fa, za⟩ := HT.out.a
  obtain ⟨cb, fb, zb⟩ := HT.out.b
  go_wp2_with fail
  refine (C3.out _ HT.out.low).mono ?_
  rintro e w3 ⟨rfl, hb⟩
  have HT := Lib.hid (HT.out.later hb)
  clear hb C3 ca fa za cb fb zb
  go_wp2
  go_ret
  exact ⟨rfl, HT.out.low⟩
end Go.Proofs.YtmpanikeeeoikaaGreat
namespace Go.Proofs.YtmpanikeeeoikaaGreat
open Go.RowKit Go.Shelf

def exR : Rl := ⟨⟨#[65]⟩, ⟨#[114]⟩⟩
def exS : St := ⟨1, exR, ⟨#[66]⟩, noR, noR, emp⟩
def exD : Dl := ⟨[], [exS], [exR], [], [], []⟩
theorem ex_of : Dl.of [exS] [] [] [] [exR] [] = exD := by rfl
theorem ex_lines : exD.lines = [⟨#[45, 32, 65, 46, 114, 32, 60, 45, 32, 66]⟩, ⟨#[43, 32, 103, 114, 111, 119, 32, 65, 46, 114]⟩] := by rfl
theorem emp_le (n : Nat) : emp.size ≤ n := Nat.zero_le _
theorem exR_le (n : Nat) (h : 1 ≤ n) : exR.le n := ⟨h, h⟩
theorem noR_le (n : Nat) : noR.le n := ⟨Nat.zero_le _, Nat.zero_le _⟩
theorem exS_le (n : Nat) (h : 1 ≤ n) : exS.le n := ⟨exR_le n h, h, noR_le n, noR_le n, Nat.zero_le _⟩
theorem exD_le : exD.le 300 4294967 where
  n0 := by decide
  n1 := by decide
  n2 := by decide
  n3 := by decide
  n4 := by decide
  n5 := by decide
  t0 := fun x hx => by cases hx
  t1 := fun x hx => by rw [List.mem_singleton.1 hx]; exact exS_le _ (by decide)
  t2 := fun x hx => by rw [List.mem_singleton.1 hx]; exact exR_le _ (by decide)
  t3 := fun x hx => by cases hx
  t4 := fun x hx => by cases hx
  t5 := fun x hx => by cases hx
set_option maxRecDepth 100000 in
set_option maxHeartbeats 4000000 in
theorem law32_lives (w : World) : Calls Tryz.prog 6 #[] w fun e w' => e = .returned (.bool true) ∧ Below w.heap.size w w' := by
  have OF := Lib.hid (fun v0 u1 W (h0 : Sl W 9 v0 1 [.int .i64 1, .string ⟨#[65]⟩, .string ⟨#[114]⟩, .string ⟨#[66]⟩, .string emp, .string emp, .string emp, .string emp, .string emp]) (h1 : Sl W 2 u1 1 [.string ⟨#[65]⟩, .string ⟨#[114]⟩]) =>
    ex_of ▸ delta_Of v0 (.slice none 0 0) (.slice none 0 0) (.slice none 0 0) (.slice none 0 0) u1 (.slice none 0 0) (.slice none 0 0) [exS] [] [] [] [exR] [] [] [] W
      ⟨h0.a, (Sl.nil _ _).a, (Sl.nil _ _).a, (Sl.nil _ _).a, fun x hx => (by rw [List.mem_singleton.1 hx]; exact exS_le _ (by decide)), fun x hx => (by cases hx), fun x hx => (by cases hx), fun x hx => (by cases hx)⟩
      ⟨(Sl.nil _ _).a, h1.a, (Sl.nil _ _).a, (Sl.nil _ _).a, fun x hx => (by cases hx), fun x hx => (by rw [List.mem_singleton.1 hx]; exact exR_le _ (by decide)), fun x hx => (by cases hx), fun x hx => (by cases hx)⟩
      (by decide) (by decide) (by decide) (by decide) (by decide) (by decide))
  have LN := Lib.hid (fun x0 x1 x2 x3 x4 x5 W h => delta_Lines x0 x1 x2 x3 x4 x5 exD W h exD_le)
  rw [ex_lines] at LN
  have SM := Lib.hid (fun va vb W ha hb => ref1_SameB va vb [⟨#[45, 32, 65, 46, 114, 32, 60, 45, 32, 66]⟩, ⟨#[43, 32, 103, 114, 111, 119, 32, 65, 46, 114]⟩] W ha hb)
  have H0 := Lib.hid (show Sl ((((w.alloc (.cells #[.string ⟨#[65]⟩, .string ⟨#[114]⟩] 50)).alloc (.cells #[.int .i64 1, .string ⟨#[65]⟩, .string ⟨#[114]⟩, .string ⟨#[66]⟩, .string emp, .string emp, .string emp, .string emp, .string emp] 52)).alloc (.cells #[.slice (some ⟨w.heap.size + 1, 0, none⟩) 1 1, .slice none 0 0, .slice none 0 0, .slice none 0 0] 26)).alloc (.cells #[.string ⟨#[65]⟩, .string ⟨#[114]⟩] 50)) 9 (.slice (some ⟨w.heap.size + 1, 0, none⟩) 1 1) 1 [.int .i64 1, .string ⟨#[65]⟩, .string ⟨#[114]⟩, .string ⟨#[66]⟩, .string emp, .string emp, .string emp, .string emp, .string emp] from
    (Sl.new (w.alloc (.cells #[.string ⟨#[65]⟩, .string ⟨#[114]⟩] 50)) [.int .i64 1, .string ⟨#[65]⟩, .string ⟨#[114]⟩, .string ⟨#[66]⟩, .string emp, .string emp, .string emp, .string emp, .string emp] 52 9 1 (w.heap.size + 1) (by simp) rfl (by simp [maxLen])).below (((Below.refl _ _).alloc (Nat.le_refl _) _).alloc (by simp) _))
  have H1 := Lib.hid (Sl.new (((w.alloc (.cells #[.string ⟨#[65]⟩, .string ⟨#[114]⟩] 50)).alloc (.cells #[.int .i64 1, .string ⟨#[65]⟩, .string ⟨#[114]⟩, .string ⟨#[66]⟩, .string emp, .string emp, .string emp, .string emp, .string emp] 52)).alloc (.cells #[.slice (some ⟨w.heap.size + 1, 0, none⟩) 1 1, .slice none 0 0, .slice none 0 0, .slice none 0 0] 26)) [.string ⟨#[65]⟩, .string ⟨#[114]⟩] 50 2 1 (w.heap.size + 1 + 1 + 1) (by simp) rfl (by simp [maxLen]))
  have HB := Lib.hid (show Below w.heap.size w ((((w.alloc (.cells #[.string ⟨#[65]⟩, .string ⟨#[114]⟩] 50)).alloc (.cells #[.int .i64 1, .string ⟨#[65]⟩, .string ⟨#[114]⟩, .string ⟨#[66]⟩, .string emp, .string emp, .string emp, .string emp, .string emp] 52)).alloc (.cells #[.slice (some ⟨w.heap.size + 1, 0, none⟩) 1 1, .slice none 0 0, .slice none 0 0, .slice none 0 0] 26)).alloc (.cells #[.string ⟨#[65]⟩, .string ⟨#[114]⟩] 50)) from ((((Below.refl _ _).alloc (Nat.le_refl _) _).alloc (by simp) _).alloc (by simp; omega) _).alloc (by simp; omega) _)
  go_enter Tryz.func6, Tryz.ntmps6
  go_wp2_with fail
  refine (OF.out _ _ _ H0.out H1.out).mono ?_
  rintro e w1 ⟨v, rfl, ⟨x0, x1, x2, x3, x4, x5, rfl, hd⟩, hb⟩
  have HB := Lib.hid (HB.out.trans (hb.mono HB.out.size))
  have HD := Lib.hid hd
  obtain ⟨a0, c0, rfl⟩ := hd.a0.form
  obtain ⟨a1, c1, rfl⟩ := hd.a1.form
  obtain ⟨a2, c2, rfl⟩ := hd.a2.form
  obtain ⟨a3, c3, rfl⟩ := hd.a3.form
  obtain ⟨a4, c4, rfl⟩ := hd.a4.form
  obtain ⟨a5, c5, rfl⟩ := hd.a5.form
  clear hd hb OF H0 H1
  go_wp2_with fail
  refine (LN.out _ _ _ _ _ _ _ HD.out).mono ?_
  rintro e w2 ⟨v, rfl, hs, hb⟩
  have HB := Lib.hid (HB.out.trans (hb.mono HB.out.size))
  have HS := Lib.hid hs
  obtain ⟨sa, sc, rfl⟩ := hs.form
  have H2 := Lib.hid (Sl.new w2 (strs [⟨#[45, 32, 65, 46, 114, 32, 60, 45, 32, 66]⟩, ⟨#[43, 32, 103, 114, 111, 119, 32, 65, 46, 114]⟩]) 9 1 2 w2.heap.size rfl rfl (by simp [maxLen]))
  clear hs hb LN HD
  go_wp2_with fail
  refine (SM.out _ _ _ (HS.out.below ((Below.refl _ _).alloc (Nat.le_refl _) _)).a H2.out.a).mono ?_
  rintro e w3 ⟨rfl, hb⟩
  have HB := Lib.hid ((HB.out.alloc HB.out.size _).trans (hb.mono (by have := HB.out.size; simp; omega)))
  clear hb
  go_wp2
  go_ret
  exact ⟨rfl, HB.out⟩
end Go.Proofs.YtmpanikeeeoikaaGreat
