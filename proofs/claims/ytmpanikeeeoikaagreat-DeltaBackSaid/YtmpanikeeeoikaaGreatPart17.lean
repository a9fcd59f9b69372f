/- Whether two rows of texts, two queries, two policies are the same: of the same ones. The document's example of layer 32. crupperref05.Right: some bool comes back; if it is true, all statements may be. The statement StateSteps: the walk of the law. -/
import Derived.Test.YtmpanikeeeoikaaGreatPart11
import Derived.Test.YtmpanikeeeoikaaGreatPart8
import Derived.Test.YtmpanikeeeoikaaGreatPart12
import Derived.Test.YtmpanikeeeoikaaGreatPart15
import Derived.Test.YtmpanikeeeoikaaGreatPart16
import Derived.Test.YtmpanikeeeoikaaGreatPart9
import Derived.Test.YtmpanikeeeoikaaGreatPart10
namespace Go.Proofs.YtmpanikeeeoikaaGreat
open Go.RowKit Go.Shelf

set_option maxRecDepth 100000 in
set_option maxHeartbeats 1000000 in
theorem ref1_SameT (va vb : Value) (l : List ByteArray) (w : World) (ha : SlA w 1 va l.length (strs l)) (hb : SlA w 1 vb l.length (strs l)) :
    Calls Tryz.prog 16 #[va, vb] w fun e w' => e = .returned (.bool true) ∧ ∃ n, w' = w.drewN n := by
  have hmax := ha.max
  have hne : ((l.length : Int) != (l.length : Int)) = false := by simp
  by_cases h0 : 0 < l.length
  · obtain ⟨b1, o1, c1, rfl, hc1, hm1, _, hx1⟩ := ha.pos h0
    obtain ⟨b2, o2, c2, rfl, hc2, hm2, _, hx2⟩ := hb.pos h0
    have HX1 := Lib.hid hx1
    have HX2 := Lib.hid hx2
    clear ha hb hx1 hx2
    go_enter Tryz.func16, Tryz.ntmps16
    go_wp2
    go_loopw [13] (fun i wr => ∃ k n : Nat, k ≤ l.length ∧ i = .int .i64 k ∧ wr = w.drewN n) (fun i _ => l.length - (intOf i).toNat)
    case atStart => exact ⟨0, 0, by omega, rfl, rfl⟩
    case round =>
      obtain ⟨k, n, hk, rfl, rfl⟩ := hrel
      by_cases hlt : k < l.length
      · have p0 := HX1.out k _ (strs_get hlt)
        have q0 := HX2.out k _ (strs_get hlt)
        go_wp2_with fail
        go_quiet (fail)
        go_wp2
        exact ⟨⟨k + 1, n + nq, by omega, by go_num, rfl⟩, by simp [intOf]; omega⟩
      · go_wp2
        go_ret
        exact ⟨rfl, n, rfl⟩
  · obtain ⟨a1, c1, rfl⟩ := ha.form
    obtain ⟨a2, c2, rfl⟩ := hb.form
    obtain rfl : l = [] := List.eq_nil_of_length_eq_zero (by omega)
    clear ha hb h0 hmax
    go_enter Tryz.func16, Tryz.ntmps16
    go_wp2
    go_loopw [13] (fun i wr => i = .int .i64 0 ∧ wr = w) (fun _ _ => 0)
    case atStart => exact ⟨rfl, rfl⟩
    case round =>
      obtain ⟨rfl, rfl⟩ := hrel
      go_wp2
      go_ret
      exact ⟨rfl, 0, rfl⟩
theorem ref1_SameB (va vb : Value) (l : List ByteArray) (w : World) (ha : SlA w 1 va l.length (strs l)) (hb : SlA w 1 vb l.length (strs l)) :
    Calls Tryz.prog 16 #[va, vb] w fun e w' => e = .returned (.bool true) ∧ Below w.heap.size w w' :=
  (ref1_SameT va vb l w ha hb).mono fun e w' ⟨he, n, hn⟩ => ⟨he, by rw [hn]; exact below_of_drewN n⟩
set_option maxRecDepth 100000 in
set_option maxHeartbeats 4000000 in
theorem ref4_SameT (q : Qv) (w : World) (hq : q.ok w) : Calls Tryz.prog 57 #[qv q, qv q] w fun e w' => e = .returned (.bool true) ∧ Below w.heap.size w w' := by
  obtain ⟨_, _, ss, hs, _⟩ := hq
  have hEq := role_eql
  obtain ⟨k, ⟨x1, x2⟩, ⟨x3, x4⟩, wv⟩ := q
  have SS := Lib.hid (fun W (hb : Below w.heap.size w W) => ref1_SameB wv wv ss W (hs.below hb) (hs.below hb))
  obtain ⟨wo, wc, rfl⟩ := hs.form
  have d1 : eqRl ⟨x1, x2⟩ ⟨x1, x2⟩ = true := decide_eq_true rfl
  have d2 : eqRl ⟨x3, x4⟩ ⟨x3, x4⟩ = true := decide_eq_true rfl
  have HT := Lib.hid (TwoAt.new w #[.int .i64 k, .string x1, .string x2, .string x3, .string x4, .slice wo ss.length wc] #[.int .i64 k, .string x1, .string x2, .string x3, .string x4, .slice wo ss.length wc] 55 55)
  clear hs
  go_enter Tryz.func57, Tryz.ntmps57
  go_wp2_with fail
  refine (SS.out _ HT.out.low).mono ?_
  rintro e w1 ⟨rfl, hb⟩
  have HT := Lib.hid (HT.out.later hb)
  clear hb
  go_wp2
  go_ret
  exact ⟨rfl, HT.out.low⟩
set_option maxRecDepth 100000 in
set_option maxHeartbeats 4000000 in
theorem ref4_SameAllT (v : Value) (qs : List Qv) (w : World) (ha : SlA w 6 v qs.length (qs.flatMap Qv.cells)) (hq : ∀ x ∈ qs, x.ok w) :
    Calls Tryz.prog 31 #[v, v] w fun e w' => e = .returned (.bool true) ∧ Below w.heap.size w w' := by
  have hmax := ha.max
  have hne : ((qs.length : Int) != (qs.length : Int)) = false := by simp
  have HA := Lib.hid ha
  have SQ := Lib.hid (fun k (hk : k < qs.length) W (hb : Below w.heap.size w W) => ref4_SameT qs[k] W ((hq _ (List.getElem_mem hk)).below hb))
  obtain ⟨ao, cap, rfl⟩ := ha.form
  clear ha
  go_enter Tryz.func31, Tryz.ntmps31
  go_wp2
  go_loopw [13] (fun i wr => ∃ k : Nat, k ≤ qs.length ∧ i = .int .i64 k ∧ Hid (Below w.heap.size w wr)) (fun i _ => qs.length - (intOf i).toNat)
  case atStart => exact ⟨0, by omega, rfl, Lib.hid (Below.refl _ _)⟩
  case round =>
    obtain ⟨k, hk, rfl, HB⟩ := hrel
    by_cases hlt : k < qs.length
    · obtain ⟨b1, o1, c1, he1, hc1, hm1, hb1, hx1⟩ := HA.out.pos (by omega)
      simp only [Value.slice.injEq, true_and] at he1
      obtain ⟨rfl, rfl⟩ := he1
      obtain ⟨p0, p1, p2, p3, p4, p5⟩ := q_cell (w := wr) (fun j u hu => (HB.out.cell (p := ⟨b1, o1 + j, none⟩) hb1).trans (hx1 j u hu)) k hlt
      have hbr : b1 < wr.heap.size := Nat.lt_of_lt_of_le hb1 HB.out.size
      have SK := Lib.hid (fun W hb => SQ.out k hlt W hb)
      obtain ⟨_, _, ss, hs, _⟩ := hq _ (List.getElem_mem hlt)
      obtain ⟨wo, wc, hw5⟩ := hs.form
      clear hx1 hs
      generalize qs[k] = x at *
      obtain ⟨xk, ⟨x1, x2⟩, ⟨x3, x4⟩, xw⟩ := x
      dsimp only at hw5
      subst hw5
      have HP := Lib.hid (⟨p0, p1, p2, p3, p4, p5⟩ : wr.cell? ⟨b1, o1 + k * 6, none⟩ = some (.int .i64 xk) ∧ wr.cell? ⟨b1, o1 + k * 6 + 1, none⟩ = some (.string x1) ∧ wr.cell? ⟨b1, o1 + k * 6 + 2, none⟩ = some (.string x2) ∧ wr.cell? ⟨b1, o1 + k * 6 + 3, none⟩ = some (.string x3) ∧ wr.cell? ⟨b1, o1 + k * 6 + 4, none⟩ = some (.string x4) ∧ wr.cell? ⟨b1, o1 + k * 6 + 5, none⟩ = some (.slice wo ss.length wc))
      clear p0 p1 p2 p3 p4 p5
      have HS : ∀ W, Below wr.heap.size wr W → W.cell? ⟨b1, o1 + k * 6, none⟩ = some (.int .i64 xk) ∧ W.cell? ⟨b1, o1 + k * 6 + 1, none⟩ = some (.string x1) ∧ W.cell? ⟨b1, o1 + k * 6 + 2, none⟩ = some (.string x2) ∧ W.cell? ⟨b1, o1 + k * 6 + 3, none⟩ = some (.string x3) ∧ W.cell? ⟨b1, o1 + k * 6 + 4, none⟩ = some (.string x4) ∧ W.cell? ⟨b1, o1 + k * 6 + 5, none⟩ = some (.slice wo ss.length wc) := fun W hb =>
        ⟨(hb.cell (p := ⟨b1, _, none⟩) hbr).trans HP.out.1, (hb.cell (p := ⟨b1, _, none⟩) hbr).trans HP.out.2.1, (hb.cell (p := ⟨b1, _, none⟩) hbr).trans HP.out.2.2.1, (hb.cell (p := ⟨b1, _, none⟩) hbr).trans HP.out.2.2.2.1, (hb.cell (p := ⟨b1, _, none⟩) hbr).trans HP.out.2.2.2.2.1, (hb.cell (p := ⟨b1, _, none⟩) hbr).trans HP.out.2.2.2.2.2⟩
      have HS := Lib.hid HS
      go_wp2_with fail
      refine wp_region_held_drew (S := (fun W => W.cell? ⟨b1, o1 + k * 6, none⟩ = some (.int .i64 xk) ∧ W.cell? ⟨b1, o1 + k * 6 + 1, none⟩ = some (.string x1) ∧ W.cell? ⟨b1, o1 + k * 6 + 2, none⟩ = some (.string x2) ∧ W.cell? ⟨b1, o1 + k * 6 + 3, none⟩ = some (.string x3) ∧ W.cell? ⟨b1, o1 + k * 6 + 4, none⟩ = some (.string x4) ∧ W.cell? ⟨b1, o1 + k * 6 + 5, none⟩ = some (.slice wo ss.length wc))) (by kernel_rfl) (HS.out _ (below_drew (Below.refl _ _))) (fun hHeld => ?_)
      (refine held_yes (v := ?_) 0 rfl (by kernel_rfl) (by kernel_rfl) (by kernel_rfl) (fun _ _ _ h => h) (by rfl) (by assumption) ?_ ?_; rotate_left; focus ((intro w hSw); (try dsimp only at hSw); go_simp; (try with_reducible rfl)); (try simp only [Act.put, List.setIfInBounds_toArray, List.set_cons_zero, List.set_cons_succ])); (refine held_yes (v := ?_) 1 rfl (by kernel_rfl) (by kernel_rfl) (by kernel_rfl) (fun _ _ _ h => h) (by rfl) (by assumption) ?_ ?_; rotate_left; focus ((intro w hSw); (try dsimp only at hSw); go_simp; (try with_reducible rfl)); (try simp only [Act.put, List.setIfInBounds_toArray, List.set_cons_zero, List.set_cons_succ])); (refine held_yes (v := ?_) 2 rfl (by kernel_rfl) (by kernel_rfl) (by kernel_rfl) (fun _ _ _ h => h) (by rfl) (by assumption) ?_ ?_; rotate_left; focus ((intro w hSw); (try dsimp only at hSw); go_simp; (try with_reducible rfl)); (try simp only [Act.put, List.setIfInBounds_toArray, List.set_cons_zero, List.set_cons_succ])); (refine held_yes (v := ?_) 3 rfl (by kernel_rfl) (by kernel_rfl) (by kernel_rfl) (fun _ _ _ h => h) (by rfl) (by assumption) ?_ ?_; rotate_left; focus ((intro w hSw); (try dsimp only at hSw); go_simp; (try with_reducible rfl)); (try simp only [Act.put, List.setIfInBounds_toArray, List.set_cons_zero, List.set_cons_succ])); (refine held_yes (v := ?_) 4 rfl (by kernel_rfl) (by kernel_rfl) (by kernel_rfl) (fun _ _ _ h => h) (by rfl) (by assumption) ?_ ?_; rotate_left; focus ((intro w hSw); (try dsimp only at hSw); go_simp; (try with_reducible rfl)); (try simp only [Act.put, List.setIfInBounds_toArray, List.set_cons_zero, List.set_cons_succ])); (refine held_yes (v := ?_) 5 rfl (by kernel_rfl) (by kernel_rfl) (by kernel_rfl) (fun _ _ _ h => h) (by rfl) (by assumption) ?_ ?_; rotate_left; focus ((intro w hSw); (try dsimp only at hSw); go_simp; (try with_reducible rfl)); (try simp only [Act.put, List.setIfInBounds_toArray, List.set_cons_zero, List.set_cons_succ])); (refine held_yes (v := ?_) 6 rfl (by kernel_rfl) (by kernel_rfl) (by kernel_rfl) (fun _ _ _ h => h) (by rfl) (by assumption) ?_ ?_; rotate_left; focus ((intro w hSw); (try dsimp only at hSw); go_simp; (try with_reducible rfl)); (try simp only [Act.put, List.setIfInBounds_toArray, List.set_cons_zero, List.set_cons_succ])); (refine held_yes (v := ?_) 7 rfl (by kernel_rfl) (by kernel_rfl) (by kernel_rfl) (fun _ _ _ h => h) (by rfl) (by assumption) ?_ ?_; rotate_left; focus ((intro w hSw); (try dsimp only at hSw); go_simp; (try with_reducible rfl)); (try simp only [Act.put, List.setIfInBounds_toArray, List.set_cons_zero, List.set_cons_succ]))
      (refine held_call 8 rfl (by kernel_rfl) (fun K hK => ?_); go_simp)
      go_at_call 57; refine (SK.out _ (below_drew HB.out)).mono ?_; rintro e w2 ⟨rfl, hb2⟩
      have hb3 := (below_drew (Below.refl wr.heap.size wr)).trans (hb2.mono (below_drew (Below.refl wr.heap.size wr)).size)
      have HB2 := Lib.hid (HB.out.trans (hb3.mono HB.out.size))
      have HS2 := HS.out _ hb3
      clear hb2 hb3
      (refine hK.out _ _ (HS2) (fun hHeld => ?_); clear hK K; (try simp only [Act.put, List.setIfInBounds_toArray, List.set_cons_zero, List.set_cons_succ]))
      clear HS2
      (refine held_yes (v := ?_) 9 rfl (by kernel_rfl) (by kernel_rfl) (by kernel_rfl) (fun _ _ _ h => h) (by rfl) (by assumption) ?_ ?_; rotate_left; focus ((intro w hSw); (try dsimp only at hSw); go_simp; (try with_reducible rfl)); (try simp only [Act.put, List.setIfInBounds_toArray, List.set_cons_zero, List.set_cons_succ]))
      refine wpAnyH_done (by kernel_rfl) ?_ _
      go_wp2
      exact ⟨⟨k + 1, by omega, by go_num, HB2⟩, by simp [intOf]; omega⟩
    · go_wp2
      go_ret
      exact ⟨rfl, HB.out⟩
set_option maxRecDepth 100000 in
set_option maxHeartbeats 4000000 in
/-- Policies of the same rows, and the same queries. -/
theorem ref5_SameT (v0 v1 v2 u0 u1 u2 v3 : Value) (l : List St) (g h : List Rl) (qs : List Qv) (w : World) (h0 : SlA w 9 v0 l.length (l.flatMap St.cells)) (h1 : SlA w 2 v1 g.length (g.flatMap Rl.cells)) (h2 : SlA w 2 v2 h.length (h.flatMap Rl.cells))
    (k0 : SlA w 9 u0 l.length (l.flatMap St.cells)) (k1 : SlA w 2 u1 g.length (g.flatMap Rl.cells)) (k2 : SlA w 2 u2 h.length (h.flatMap Rl.cells)) (h3 : SlA w 6 v3 qs.length (qs.flatMap Qv.cells)) (hq : ∀ x ∈ qs, x.ok w) :
    Calls Tryz.prog 13 #[pv v0 v1 v2 v3, pv u0 u1 u2 v3] w fun e w' => e = .returned (.bool true) ∧ Below w.heap.size w w' := by
  have C0 := Lib.hid (fun W (hb : Below w.heap.size w W) => ref3_SameB v0 u0 l l W (h0.below hb) (k0.below hb))
  have C1 := Lib.hid (fun W (hb : Below w.heap.size w W) => ref3_SameRolesE v1 u1 g g W (h1.below hb) (k1.below hb))
  have C2 := Lib.hid (fun W (hb : Below w.heap.size w W) => ref3_SameRolesE v2 u2 h h W (h2.below hb) (k2.below hb))
  have C3 := Lib.hid (fun W (hb : Below w.heap.size w W) => ref4_SameAllT v3 qs W (h3.below hb) (fun x hx => (hq x hx).below hb))
  rw [decide_eq_true (rfl : l = l)] at C0
  rw [decide_eq_true (rfl : g = g)] at C1
  rw [decide_eq_true (rfl : h = h)] at C2
  obtain ⟨a0, c0, rfl⟩ := h0.form
  obtain ⟨a1, c1, rfl⟩ := h1.form
  obtain ⟨a2, c2, rfl⟩ := h2.form
  obtain ⟨a3, c3, rfl⟩ := h3.form
  obtain ⟨b0, d0, rfl⟩ := k0.form
  obtain ⟨b1, d1, rfl⟩ := k1.form
  obtain ⟨b2, d2, rfl⟩ := k2.form
  have HT := Lib.hid (TwoAt.new w #[.slice a0 l.length c0, .slice a1 g.length c1, .slice a2 h.length c2, .slice a3 qs.length c3] #[.slice b0 l.length d0, .slice b1 g.length d1, .slice b2 h.length d2, .slice a3 qs.length c3] 26 26)
  clear h0 h1 h2 h3 k0 k1 k2 hq
  go_enter Tryz.func13, Tryz.ntmps13
  go_wp2_with fail
  refine (C0.out _ HT.out.low).mono ?_
  rintro e w0 ⟨rfl, hb⟩
  have HT := Lib.hid (HT.out.later hb)
  clear hb C0
  obtain ⟨ca, fa, za⟩ := HT.out.a
  obtain ⟨cb, fb, zb⟩ := HT.out.b
  go_wp2_with fail
  refine (C1.out _ HT.out.low).mono ?_
  rintro e w1 ⟨rfl, hb⟩
  have HT := Lib.hid (HT.out.later hb)
  clear hb C1 ca fa za cb fb zb
  obtain ⟨ca, fa, za⟩ := HT.out.a
  obtain ⟨cb, fb, zb⟩ := HT.out.b
  go_wp2_with fail
  refine (C2.out _ HT.out.low).mono ?_
  rintro e w2 ⟨rfl, hb⟩
  have HT := Lib.hid (HT.out.later hb)
  clear hb C2 ca fa za cb fb zb
  obtain ⟨ca, fa, za⟩ := HT.out.a
  obtain ⟨cb, fb, zb⟩ := HT.out.b
  go_wp2_with fail
  refine (C3.out _ HT.out.low).mono ?_
  rintro e w3 ⟨rfl, hb⟩
  have HT := Lib.hid (HT.out.later hb)
  clear hb C3 ca fa za cb fb zb
  go_wp2
  go_ret
  exact ⟨rfl, HT.out.low⟩
end Go.Proofs.YtmpanikeeeoikaaGreat
namespace Go.Proofs.YtmpanikeeeoikaaGreat
open Go.RowKit Go.Shelf

def exR : Rl := ⟨⟨#[65]⟩, ⟨#[114]⟩⟩
def exS : St := ⟨1, exR, ⟨#[66]⟩, noR, noR, emp⟩
def exD : Dl := ⟨[], [exS], [exR], [], [], []⟩
theorem ex_of : Dl.of [exS] [] [] [] [exR] [] = exD := by rfl
theorem ex_lines : exD.lines = [⟨#[45, 32, 65, 46, 114, 32, 60, 45, 32, 66]⟩, ⟨#[43, 32, 103, 114, 111, 119, 32, 65, 46, 114]⟩] := by rfl
theorem emp_le (n : Nat) : emp.size ≤ n := Nat.zero_le _
theorem exR_le (n : Nat) (h : 1 ≤ n) : exR.le n := ⟨h, h⟩
theorem noR_le (n : Nat) : noR.le n := ⟨Nat.zero_le _, Nat.zero_le _⟩
theorem exS_le (n : Nat) (h : 1 ≤ n) : exS.le n := ⟨exR_le n h, h, noR_le n, noR_le n, Nat.zero_le _⟩
theorem exD_le : exD.le 300 4294967 where
  n0 := by decide
  n1 := by decide
  n2 := by decide
  n3 := by decide
  n4 := by decide
  n5 := by decide
  t0 := fun x hx => by cases hx
  t1 := fun x hx => by rw [List.mem_singleton.1 hx]; exact exS_le _ (by decide)
  t2 := fun x hx => by rw [List.mem_singleton.1 hx]; exact exR_le _ (by decide)
  t3 := fun x hx => by cases hx
  t4 := fun x hx => by cases hx
  t5 := fun x hx => by cases hx
set_option maxRecDepth 100000 in
set_option maxHeartbeats 4000000 in
theorem law32_lives (w : World) : Calls Tryz.prog 6 #[] w fun e w' => e = .returned (.bool true) ∧ Below w.heap.size w w' := by
  have OF := Lib.hid (fun v0 u1 W (h0 : Sl W 9 v0 1 [.int .i64 1, .string ⟨#[65]⟩, .string ⟨#[114]⟩, .string ⟨#[66]⟩, .string emp, .string emp, .string emp, .string emp, .string emp]) (h1 : Sl W 2 u1 1 [.string ⟨#[65]⟩, .string ⟨#[114]⟩]) =>
    ex_of ▸ delta_Of v0 (.slice none 0 0) (.slice none 0 0) (.slice none 0 0) (.slice none 0 0) u1 (.slice none 0 0) (.slice none 0 0) [exS] [] [] [] [exR] [] [] [] W
      ⟨h0.a, (Sl.nil _ _).a, (Sl.nil _ _).a, (Sl.nil _ _).a, fun x hx => (by rw [List.mem_singleton.1 hx]; exact exS_le _ (by decide)), fun x hx => (by cases hx), fun x hx => (by cases hx), fun x hx => (by cases hx)⟩
      ⟨(Sl.nil _ _).a, h1.a, (Sl.nil _ _).a, (Sl.nil _ _).a, fun x hx => (by cases hx), fun x hx => (by rw [List.mem_singleton.1 hx]; exact exR_le _ (by decide)), fun x hx => (by cases hx), fun x hx => (by cases hx)⟩
      (by decide) (by decide) (by decide) (by decide) (by decide) (by decide))
  have LN := Lib.hid (fun x0 x1 x2 x3 x4 x5 W h => delta_Lines x0 x1 x2 x3 x4 x5 exD W h exD_le)
  rw [ex_lines] at LN
  have SM := Lib.hid (fun va vb W ha hb => ref1_SameB va vb [⟨#[45, 32, 65, 46, 114, 32, 60, 45, 32, 66]⟩, ⟨#[43, 32, 103, 114, 111, 119, 32, 65, 46, 114]⟩] W ha hb)
  have H0 := Lib.hid (show Sl ((((w.alloc (.cells #[.string ⟨#[65]⟩, .string ⟨#[114]⟩] 50)).alloc (.cells #[.int .i64 1, .string ⟨#[65]⟩, .string ⟨#[114]⟩, .string ⟨#[66]⟩, .string emp, .string emp, .string emp, .string emp, .string emp] 52)).alloc (.cells #[.slice (some ⟨w.heap.size + 1, 0, none⟩) 1 1, .slice none 0 0, .slice none 0 0, .slice none 0 0] 26)).alloc (.cells #[.string ⟨#[65]⟩, .string ⟨#[114]⟩] 50)) 9 (.slice (some ⟨w.heap.size + 1, 0, none⟩) 1 1) 1 [.int .i64 1, .string ⟨#[65]⟩, .string ⟨#[114]⟩, .string ⟨#[66]⟩, .string emp, .string emp, .string emp, .string emp, .string emp] from
    (Sl.new (w.alloc (.cells #[.string ⟨#[65]⟩, .string ⟨#[114]⟩] 50)) [.int .i64 1, .string ⟨#[65]⟩, .string ⟨#[114]⟩, .string ⟨#[66]⟩, .string emp, .string emp, .string emp, .string emp, .string emp] 52 9 1 (w.heap.size + 1) (by simp) rfl (by simp [maxLen])).below (((Below.refl _ _).alloc (Nat.le_refl _) _).alloc (by simp) _))
  have H1 := Lib.hid (Sl.new (((w.alloc (.cells #[.string ⟨#[65]⟩, .string ⟨#[114]⟩] 50)).alloc (.cells #[.int .i64 1, .string ⟨#[65]⟩, .string ⟨#[114]⟩, .string ⟨#[66]⟩, .string emp, .string emp, .string emp, .string emp, .string emp] 52)).alloc (.cells #[.slice (some ⟨w.heap.size + 1, 0, none⟩) 1 1, .slice none 0 0, .slice none 0 0, .slice none 0 0] 26)) [.string ⟨#[65]⟩, .string ⟨#[114]⟩] 50 2 1 (w.heap.size + 1 + 1 + 1) (by simp) rfl (by simp [maxLen]))
  have HB := Lib.hid (show Below w.heap.size w ((((w.alloc (.cells #[.string ⟨#[65]⟩, .string ⟨#[114]⟩] 50)).alloc (.cells #[.int .i64 1, .string ⟨#[65]⟩, .string ⟨#[114]⟩, .string ⟨#[66]⟩, .string emp, .string emp, .string emp, .string emp, .string emp] 52)).alloc (.cells #[.slice (some ⟨w.heap.size + 1, 0, none⟩) 1 1, .slice none 0 0, .slice none 0 0, .slice none 0 0] 26)).alloc (.cells #[.string ⟨#[65]⟩, .string ⟨#[114]⟩] 50)) from ((((Below.refl _ _).alloc (Nat.le_refl _) _).alloc (by simp) _).alloc (by simp; omega) _).alloc (by simp; omega) _)
  go_enter Tryz.func6, Tryz.ntmps6
  go_wp2_with fail
  refine (OF.out _ _ _ H0.out H1.out).mono ?_
  rintro e w1 ⟨v, rfl, ⟨x0, x1, x2, x3, x4, x5, rfl, hd⟩, hb⟩
  have HB := Lib.hid (HB.out.trans (hb.mono HB.out.size))
  have HD := Lib.hid hd
  obtain ⟨a0, c0, rfl⟩ := hd.a0.form
  obtain ⟨a1, c1, rfl⟩ := hd.a1.form
  obtain ⟨a2, c2, rfl⟩ := hd.a2.form
  obtain ⟨a3, c3, rfl⟩ := hd.a3.form
  obtain ⟨a4, c4, rfl⟩ := hd.a4.form
  obtain ⟨a5, c5, rfl⟩ := hd.a5.form
  clear hd hb OF H0 H1
  go_wp2_with fail
  refine (LN.out _ _ _ _ _ _ _ HD.out).mono ?_
  rintro e w2 ⟨v, rfl, hs, hb⟩
  have HB := Lib.hid (HB.out.trans (hb.mono HB.out.size))
  have HS := Lib.hid hs
  obtain ⟨sa, sc, rfl⟩ := hs.form
  have H2 := Lib.hid (Sl.new w2 (strs [⟨#[45, 32, 65, 46, 114, 32, 60, 45, 32, 66]⟩, ⟨#[43, 32, 103, 114, 111, 119, 32, 65, 46, 114]⟩]) 9 1 2 w2.heap.size rfl rfl (by simp [maxLen]))
  clear hs hb LN HD
  go_wp2_with fail
  refine (SM.out _ _ _ (HS.out.below ((Below.refl _ _).alloc (Nat.le_refl _) _)).a H2.out.a).mono ?_
  rintro e w3 ⟨rfl, hb⟩
  have HB := Lib.hid ((HB.out.alloc HB.out.size _).trans (hb.mono (by have := HB.out.size; simp; omega)))
  clear hb
  go_wp2
  go_ret
  exact ⟨rfl, HB.out⟩
end Go.Proofs.YtmpanikeeeoikaaGreat
namespace Go.Proofs.YtmpanikeeeoikaaGreat
open Go.RowKit Go.Shelf

/-- Some bool comes back; if it is true, all statements may be. -/
def RightB (l : List St) (e : Ending) : Prop := ∃ b, e = .returned (.bool b) ∧ (b = true → ∀ x ∈ l, rightS x = true)
/-- .. and the rows stand in order, each once. -/
def RightF (l : List St) (g h : List Rl) (e : Ending) : Prop := ∃ b, e = .returned (.bool b) ∧ (b = true → (∀ x ∈ l, rightS x = true) ∧ l = insAll [] l ∧ g = insAllR [] g ∧ h = insAllR [] h)
theorem rightB_no {l : List St} {g h : List Rl} : RightF l g h (.returned (.bool false)) := ⟨false, rfl, fun h => by cases h⟩
theorem sortR_row (va : Value) (l : List Rl) (w : World) (ha : SlA w 2 va l.length (l.flatMap Rl.cells)) (hl : l.length ≤ 1000) :
    Calls Tryz.prog 35 #[va] w fun e w' => ∃ v, e = .returned v ∧ Sl w' 2 v (insAllR [] l).length ((insAllR [] l).flatMap Rl.cells) ∧ Below w.heap.size w w' := ref5_Sort va l w ha hl

set_option maxRecDepth 100000 in
set_option maxHeartbeats 8000000 in
theorem ref5_RightF (v0 v1 v2 v3 : Value) (l : List St) (g h : List Rl) (qs : List Qv) (w : World) (hp : PolAt w v0 v1 v2 v3 l g h qs) (hl : l.length ≤ 30) (hg : g.length ≤ 30) (hh : h.length ≤ 30) (hq : qs.length ≤ 30) (hl4 : allLe l 40) (hq40 : ∀ q ∈ qs, q.okN 40 w) :
    Calls Tryz.prog 20 #[pv v0 v1 v2 v3] w fun e w' => RightF l g h e ∧ Below w.heap.size w w' := by
  have HP := Lib.hid hp
  have FI := Lib.hid (fun W (hb : Below w.heap.size w W) => ref5_Fits v0 v1 v2 v3 l g h qs W (hp.below hb) (by omega) (by omega) (by omega) (by omega) (fun q hq => (hq40 q hq).below hb))
  have S3 := Lib.hid (fun W (hb : Below w.heap.size w W) => ref3_Sort v0 l W (hp.rs.below hb) (by omega))
  have SG := Lib.hid (fun W (hb : Below w.heap.size w W) => sortR_row v1 g W (hp.rg.below hb) (by omega))
  have SH := Lib.hid (fun W (hb : Below w.heap.size w W) => sortR_row v2 h W (hp.rh.below hb) (by omega))
  have RI := Lib.hid (fun k (hk : k < l.length) W => ref3_Right l[k] W ((hl4 _ (List.getElem_mem hk)).mono (by decide)))
  have RQ := Lib.hid (fun k (hk : k < qs.length) W (hb : Below w.heap.size w W) => ref4_Right qs[k] W ((hp.lq _ (List.getElem_mem hk)).below hb))
  obtain ⟨a0, c0, rfl⟩ := hp.rs.form
  obtain ⟨a1, c1, rfl⟩ := hp.rg.form
  obtain ⟨a2, c2, rfl⟩ := hp.rh.form
  obtain ⟨a3, c3, rfl⟩ := hp.rq.form
  have HT := Lib.hid (show OneAt w #[.slice a0 l.length c0, .slice a1 g.length c1, .slice a2 h.length c2, .slice a3 qs.length c3] (w.alloc (.cells #[.slice a0 l.length c0, .slice a1 g.length c1, .slice a2 h.length c2, .slice a3 qs.length c3] 26)) from ⟨Blk.new w _ _, (Below.refl _ _).alloc (Nat.le_refl _) _⟩)
  clear hp hq40 hl4
  go_enter Tryz.func20, Tryz.ntmps20
  go_wp2_with fail
  go_loopw [12] (fun i wr => ∃ k : Nat, k ≤ l.length ∧ i = .int .i64 k ∧ Hid (OneAt w #[.slice a0 l.length c0, .slice a1 g.length c1, .slice a2 h.length c2, .slice a3 qs.length c3] wr) ∧ Hid (∀ j (hj : j < l.length), j < k → rightS l[j] = true)) (fun i _ => l.length - (intOf i).toNat)
  case atStart => exact ⟨0, by omega, rfl, HT, Lib.hid (fun _ _ h => absurd h (by omega))⟩
  case round =>
    clear HT
    obtain ⟨k, hk, rfl, HT, HJ⟩ := hrel
    by_cases hlt : k < l.length
    · obtain ⟨b1, o1, e1, he1, hc1, hm1', hb1, hx1⟩ := HP.out.rs.pos (by omega)
      simp only [Value.slice.injEq, true_and] at he1
      obtain ⟨rfl, rfl⟩ := he1
      obtain ⟨p0, p1, p2, p3, p4, p5, p6, p7, p8⟩ := st_cell (w := wr) (fun j u hu => (HT.out.low.cell (p := ⟨b1, o1 + j, none⟩) hb1).trans (hx1 j u hu)) k hlt
      have hbr : b1 < wr.heap.size := Nat.lt_of_lt_of_le hb1 HT.out.low.size
      have RK := Lib.hid (fun W => RI.out k hlt W)
      have HJ2 : Hid (rightS l[k] = true → ∀ j (hj : j < l.length), j < k + 1 → rightS l[j] = true) := Lib.hid (fun hpk j hj hjk => by
        by_cases h : j < k
        · exact HJ.out j hj h
        · obtain rfl : j = k := by omega
          exact hpk)
      have hek : l[k] = ⟨l[k].k, ⟨l[k].h.o, l[k].h.n⟩, l[k].who, ⟨l[k].a.o, l[k].a.n⟩, ⟨l[k].b.o, l[k].b.n⟩, l[k].via⟩ := rfl
      clear hx1
      generalize rightS l[k] = rr at RK HJ2
      generalize l[k] = x at *
      obtain ⟨xk, ⟨x1, x2⟩, xw, ⟨x3, x4⟩, ⟨x5, x6⟩, xv⟩ := x
      clear hek
      have HT1 := Lib.hid (HT.out.alloc (.cells #[.int .i64 xk, .string x1, .string x2, .string xw, .string x3, .string x4, .string x5, .string x6, .string xv] 52))
      go_wp2_with fail
      refine (RK.out _).mono ?_
      rintro e w2 ⟨rfl, hb2⟩
      have HT2 := Lib.hid (HT1.out.later hb2)
      clear hb2
      cases rr with
      | false =>
        go_wp2
        go_ret
        exact ⟨rightB_no, HT2.out.low⟩
      | true =>
        have HJ3 := Lib.hid (HJ2.out rfl)
        go_wp2
        exact ⟨⟨k + 1, by omega, by go_num, HT2, HJ3⟩, by simp [intOf]; omega⟩
    · have HALL := Lib.hid (show ∀ x ∈ l, rightS x = true from fun x hx => by
        obtain ⟨j, hj, rfl⟩ := List.getElem_of_mem hx
        exact HJ.out j hj (by omega))
      clear HJ
      obtain ⟨inf, hi, hz0, hz1, hz2⟩ := info_parts rl_info'
      have HINF := Lib.hid hi
      have T2 := HT.out.drew
      have hown : (wr.drew.alloc (.cells #[] 50)).ownsRow wr.heap.size 50 2 (.slice (some ⟨wr.heap.size, 0, none⟩) 0 0) 0 [] := World.ownsRow_made wr.drew #[] 0 (Nat.le_refl _) (Nat.zero_le _) (by simp)
      have hlow : Below wr.heap.size wr (wr.drew.alloc (.cells #[] 50)) := (below_drew (Below.refl _ _)).alloc (Nat.le_refl _) _
      have T4 := HT.out.later hlow
      obtain ⟨ca, fa, za⟩ := HT.out.a
      have hza : w.heap.size < wr.heap.size := za
      clear hi fa za
      go_wp2_with fail
      go_region_held3 (fun W => ∀ o, W.cell? ⟨w.heap.size, o, none⟩ = (#[.slice a0 l.length c0, .slice a1 g.length c1, .slice a2 h.length c2, .slice a3 qs.length c3] : Array Value)[o]?)
        (first | exact T2.a.1 | exact T4.a.1 | exact T5.a.1 | exact T6.a.1 | go_keep)
        (first
          | (refine step_row rfl _ _ 23 rfl wr.heap.size 50 inf _ 2 32 Tryz.underlying23 HINF.out hz0 hz1 hz2 (Nat.le_of_ble_eq_true rfl) rfl (Nat.le_of_ble_eq_true rfl) _ 0 [] rfl hown _ g.length _ rfl (HP.out.rg.below T4.low) (rls_one _) ?_ hlow.size ?_; omega; intro a5 c5 w5 hown5 hg5; have hb5 := below_own hlow hown hg5 hlow.size (Nat.le_refl _); have T5 := HT.out.later hb5; obtain ⟨n5, hn5⟩ : ∃ n5, n5 = 0 + g.length := ⟨_, rfl⟩; rw [← hn5] at hown5 ⊢; have hn5m : n5 ≤ 30 := (by omega); have HN5 := Lib.hid hn5; clear hn5)
          | (refine step_row rfl _ _ 23 rfl wr.heap.size 50 inf _ 2 32 Tryz.underlying23 HINF.out hz0 hz1 hz2 (Nat.le_of_ble_eq_true rfl) rfl (Nat.le_of_ble_eq_true rfl) _ n5 _ rfl hown5 _ h.length _ rfl (HP.out.rh.below T5.low) (rls_one _) ?_ hb5.size ?_; omega; intro a6 c6 w6 hown6 hg6; have hb6 := below_own hb5 hown5 hg6 hb5.size (Nat.le_refl _); have T6 := HT.out.later hb6; obtain ⟨n6, hn6⟩ : ∃ n6, n6 = n5 + h.length := ⟨_, rfl⟩; rw [← hn6] at hown6 ⊢; have HN6 := Lib.hid hn6; clear hn6))
      have HS6 := Lib.hid (show Sl w6 2 (.slice a6 n6 c6) n6 ((g ++ h).flatMap Rl.cells) by have := Sl.of_own hown6; rw [rl_flat]; simpa using this)
      have HLe := Lib.hid (show ∀ x ∈ g ++ h, x.le 9223372036854775807 from fun x hx => by
        rcases List.mem_append.1 hx with hx | hx
        · exact HP.out.lg x hx
        · exact HP.out.lh x hx)
      have HN := Lib.hid (show n6 = (g ++ h).length by rw [HN6.out, HN5.out, List.length_append]; omega)
      have HT6 := Lib.hid T6
      have hn6m : n6 ≤ 1000 := by have := HN6.out; omega
      clear hn5m
      generalize g ++ h = gh at HS6 HLe HN
      clear hown5 hown6 hg5 hg6 hb5 hb6 T2 T4 T5 T6 hlow hown ca hza HT HN6 HN5 hlt hk
      go_wp2_with fail
      go_loopw [28] (fun i wr => ∃ k : Nat, k ≤ n6 ∧ i = .int .i64 k ∧ Hid (OneAt w #[.slice a0 l.length c0, .slice a1 g.length c1, .slice a2 h.length c2, .slice a3 qs.length c3] wr) ∧ Hid (Below w6.heap.size w6 wr)) (fun i _ => n6 - (intOf i).toNat)
      case atStart => exact ⟨0, by omega, rfl, HT6, Lib.hid (Below.refl _ _)⟩
      case round =>
        clear HT6
        obtain ⟨k, hk, rfl, HT, HB⟩ := hrel
        by_cases hlt : k < n6
        · obtain ⟨b1, o1, e1, he1, hc1, hm1', hb1, hx1⟩ := HS6.out.pos (by omega)
          simp only [Value.slice.injEq, true_and] at he1
          obtain ⟨rfl, rfl⟩ := he1
          have hlt2 : k < gh.length := by have := HN.out; omega
          obtain ⟨p0, p1⟩ := rl_cell (w := wr) (fun j u hu => (HB.out.cell (p := ⟨b1, o1 + j, none⟩) hb1).trans (hx1 j u hu)) k hlt2
          have hbr : b1 < wr.heap.size := Nat.lt_of_lt_of_le hb1 HB.out.size
          have IR := Lib.hid (fun W => ref3_IsRoleM gh[k] W (HLe.out _ (List.getElem_mem hlt2)))
          clear hx1
          generalize isRole gh[k] = ri at IR
          generalize gh[k] = x at *
          obtain ⟨x1, x2⟩ := x
          have HT2 := Lib.hid (HT.out.alloc (.cells #[.string x1, .string x2] 50))
          have HB2 := Lib.hid (HB.out.alloc HB.out.size (.cells #[.string x1, .string x2] 50))
          go_wp2_with fail
          refine (IR.out _).mono ?_
          rintro e w7 ⟨rfl, hb7⟩
          have HT3 := Lib.hid (HT2.out.later hb7)
          have HB3 := Lib.hid (HB2.out.trans (hb7.mono HB2.out.size))
          clear hb7
          cases ri with
          | false =>
            go_wp2
            go_ret
            exact ⟨rightB_no, HT3.out.low⟩
          | true =>
            go_wp2
            exact ⟨⟨k + 1, by omega, by go_num, HT3, HB3⟩, by simp [intOf]; omega⟩
        · obtain ⟨ca, fa, za⟩ := HT.out.a
          clear HS6 HLe HN HB
          go_wp2_with fail
          clear ca fa za
          go_loopw [39] (fun i wr => ∃ k : Nat, k ≤ qs.length ∧ i = .int .i64 k ∧ Hid (OneAt w #[.slice a0 l.length c0, .slice a1 g.length c1, .slice a2 h.length c2, .slice a3 qs.length c3] wr)) (fun i _ => qs.length - (intOf i).toNat)
          case atStart => exact ⟨0, by omega, rfl, HT⟩
          case round =>
            clear HT
            obtain ⟨k, hk, rfl, HT⟩ := hrel
            by_cases hlt : k < qs.length
            · obtain ⟨b1, o1, e1, he1, hc1, hm1', hb1, hx1⟩ := HP.out.rq.pos (by omega)
              simp only [Value.slice.injEq, true_and] at he1
              obtain ⟨rfl, rfl⟩ := he1
              obtain ⟨p0, p1, p2, p3, p4, p5⟩ := q_cell (w := wr) (fun j u hu => (HT.out.low.cell (p := ⟨b1, o1 + j, none⟩) hb1).trans (hx1 j u hu)) k hlt
              have hbr : b1 < wr.heap.size := Nat.lt_of_lt_of_le hb1 HT.out.low.size
              have hqo := HP.out.lq _ (List.getElem_mem hlt)
              have QR := Lib.hid (fun W hb => RQ.out k hlt W hb)
              obtain ⟨wo, wc, hw5⟩ : ∃ a c, qs[k].w = .slice a ((hqo.2.2).choose).length c := ((hqo.2.2).choose_spec.1).form
              generalize (hqo.2.2).choose.length = nw at hw5
              clear hx1 hqo
              generalize qs[k] = x at *
              obtain ⟨xk, ⟨x1, x2⟩, ⟨x3, x4⟩, xw⟩ := x
              dsimp only at hw5
              subst hw5
              have HT1 := Lib.hid (HT.out.alloc (.cells #[.int .i64 xk, .string x1, .string x2, .string x3, .string x4, .slice wo nw wc] 55))
              go_wp2_with fail
              refine (QR.out _ HT1.out.low).mono ?_
              rintro e w7 ⟨⟨rq, rfl⟩, hb7⟩
              have HT3 := Lib.hid (HT1.out.later hb7)
              clear hb7
              cases rq with
              | false =>
                go_wp2
                go_ret
                exact ⟨rightB_no, HT3.out.low⟩
              | true =>
                go_wp2
                exact ⟨⟨k + 1, by omega, by go_num, HT3⟩, by simp [intOf]; omega⟩
            · have M1 := Lib.hid (fun v W (hb : Below w.heap.size w W) (hv : Sl W 9 v (insAll [] l).length ((insAll [] l).flatMap St.cells)) => ref3_SameB (.slice a0 l.length c0) v l (insAll [] l) W (HP.out.rs.below hb) hv.a)
              have M2 := Lib.hid (fun v W (hb : Below w.heap.size w W) (hv : Sl W 2 v (insAllR [] g).length ((insAllR [] g).flatMap Rl.cells)) => ref3_SameRolesE (.slice a1 g.length c1) v g (insAllR [] g) W (HP.out.rg.below hb) hv.a)
              have M3 := Lib.hid (fun v W (hb : Below w.heap.size w W) (hv : Sl W 2 v (insAllR [] h).length ((insAllR [] h).flatMap Rl.cells)) => ref3_SameRolesE (.slice a2 h.length c2) v h (insAllR [] h) W (HP.out.rh.below hb) hv.a)
              have E1 := Lib.hid (fun (h : decide (l = insAll [] l) = true) => of_decide_eq_true h)
              have E2 := Lib.hid (fun (h : decide (g = insAllR [] g) = true) => of_decide_eq_true h)
              have E3 := Lib.hid (fun (h' : decide (h = insAllR [] h) = true) => of_decide_eq_true h')
              generalize decide (l = insAll [] l) = r1 at M1 E1
              generalize decide (g = insAllR [] g) = r2 at M2 E2
              generalize decide (h = insAllR [] h) = r3 at M3 E3
              have HT := HT.out
              go_wp2_with fail
              refine wp_region_held_drew (S := (fun W => ∀ o, W.cell? ⟨w.heap.size, o, none⟩ = (#[.slice a0 l.length c0, .slice a1 g.length c1, .slice a2 h.length c2, .slice a3 qs.length c3] : Array Value)[o]?)) (by kernel_rfl) HT.drew.a.1 (fun hHeld => ?_)
              have HT := HT.drew
              (refine held_yes (v := ?_) 0 rfl (by kernel_rfl) (by kernel_rfl) (by kernel_rfl) (fun _ _ _ h => h) (by rfl) (by assumption) ?_ ?_; rotate_left; focus ((intro w hSw); (try dsimp only at hSw); go_simp; (try with_reducible rfl)); (try simp only [Act.put, List.setIfInBounds_toArray, List.set_cons_zero, List.set_cons_succ])); (refine held_yes (v := ?_) 1 rfl (by kernel_rfl) (by kernel_rfl) (by kernel_rfl) (fun _ _ _ h => h) (by rfl) (by assumption) ?_ ?_; rotate_left; focus ((intro w hSw); (try dsimp only at hSw); go_simp; (try with_reducible rfl)); (try simp only [Act.put, List.setIfInBounds_toArray, List.set_cons_zero, List.set_cons_succ])); (refine held_yes (v := ?_) 2 rfl (by kernel_rfl) (by kernel_rfl) (by kernel_rfl) (fun _ _ _ h => h) (by rfl) (by assumption) ?_ ?_; rotate_left; focus ((intro w hSw); (try dsimp only at hSw); go_simp; (try with_reducible rfl)); (try simp only [Act.put, List.setIfInBounds_toArray, List.set_cons_zero, List.set_cons_succ])); (refine held_yes (v := ?_) 3 rfl (by kernel_rfl) (by kernel_rfl) (by kernel_rfl) (fun _ _ _ h => h) (by rfl) (by assumption) ?_ ?_; rotate_left; focus ((intro w hSw); (try dsimp only at hSw); go_simp; (try with_reducible rfl)); (try simp only [Act.put, List.setIfInBounds_toArray, List.set_cons_zero, List.set_cons_succ]))
              (refine held_call 4 rfl (by kernel_rfl) (fun K hK => ?_); go_simp)
              go_at_call 34; refine (S3.out _ HT.low).mono ?_; rintro e wq ⟨y1, rfl, hy1, hbq⟩; have HT := HT.later hbq; have cq := HT.a.1; have HY1 := Lib.hid hy1
              (refine hK.out _ _ (HT.a.1) (fun hHeld => ?_); clear hK K; (try simp only [Act.put, List.setIfInBounds_toArray, List.set_cons_zero, List.set_cons_succ]))
              (refine held_call 5 rfl (by kernel_rfl) (fun K hK => ?_); go_simp)
              go_at_call 29; refine (M1.out _ _ HT.low HY1.out).mono ?_; rintro e wq ⟨rfl, hbq⟩; have HT := HT.later hbq; have cq := HT.a.1
              (refine hK.out _ _ (HT.a.1) (fun hHeld => ?_); clear hK K; (try simp only [Act.put, List.setIfInBounds_toArray, List.set_cons_zero, List.set_cons_succ]))
              (refine held_yes (v := ?_) 6 rfl (by kernel_rfl) (by kernel_rfl) (by kernel_rfl) (fun _ _ _ h => h) (by rfl) (by assumption) ?_ ?_; rotate_left; focus ((intro w hSw); (try dsimp only at hSw); go_simp; (try with_reducible rfl)); (try simp only [Act.put, List.setIfInBounds_toArray, List.set_cons_zero, List.set_cons_succ]))
              cases r1 with
              | false =>
                (refine held_no 7 rfl (by kernel_rfl) (by kernel_rfl) (by kernel_rfl) (fun _ _ _ h => h) (by rfl) (by assumption) ?_; (try simp only [Act.put, List.setIfInBounds_toArray, List.set_cons_zero, List.set_cons_succ])); (refine held_no 8 rfl (by kernel_rfl) (by kernel_rfl) (by kernel_rfl) (fun _ _ _ h => h) (by rfl) (by assumption) ?_; (try simp only [Act.put, List.setIfInBounds_toArray, List.set_cons_zero, List.set_cons_succ])); (refine held_no 9 rfl (by kernel_rfl) (by kernel_rfl) (by kernel_rfl) (fun _ _ _ h => h) (by rfl) (by assumption) ?_; (try simp only [Act.put, List.setIfInBounds_toArray, List.set_cons_zero, List.set_cons_succ])); (refine held_no 10 rfl (by kernel_rfl) (by kernel_rfl) (by kernel_rfl) (fun _ _ _ h => h) (by rfl) (by assumption) ?_; (try simp only [Act.put, List.setIfInBounds_toArray, List.set_cons_zero, List.set_cons_succ])); (refine held_no 11 rfl (by kernel_rfl) (by kernel_rfl) (by kernel_rfl) (fun _ _ _ h => h) (by rfl) (by assumption) ?_; (try simp only [Act.put, List.setIfInBounds_toArray, List.set_cons_zero, List.set_cons_succ])); (refine held_no 12 rfl (by kernel_rfl) (by kernel_rfl) (by kernel_rfl) (fun _ _ _ h => h) (by rfl) (by assumption) ?_; (try simp only [Act.put, List.setIfInBounds_toArray, List.set_cons_zero, List.set_cons_succ]))
                (refine held_yes (v := ?_) 13 rfl (by kernel_rfl) (by kernel_rfl) (by kernel_rfl) (fun _ _ _ h => h) (by rfl) (by assumption) ?_ ?_; rotate_left; focus ((intro w hSw); (try dsimp only at hSw); go_simp; (try with_reducible rfl)); (try simp only [Act.put, List.setIfInBounds_toArray, List.set_cons_zero, List.set_cons_succ])); (refine held_yes (v := ?_) 14 rfl (by kernel_rfl) (by kernel_rfl) (by kernel_rfl) (fun _ _ _ h => h) (by rfl) (by assumption) ?_ ?_; rotate_left; focus ((intro w hSw); (try dsimp only at hSw); go_simp; (try with_reducible rfl)); (try simp only [Act.put, List.setIfInBounds_toArray, List.set_cons_zero, List.set_cons_succ]))
                (refine held_no 15 rfl (by kernel_rfl) (by kernel_rfl) (by kernel_rfl) (fun _ _ _ h => h) (by rfl) (by assumption) ?_; (try simp only [Act.put, List.setIfInBounds_toArray, List.set_cons_zero, List.set_cons_succ])); (refine held_no 16 rfl (by kernel_rfl) (by kernel_rfl) (by kernel_rfl) (fun _ _ _ h => h) (by rfl) (by assumption) ?_; (try simp only [Act.put, List.setIfInBounds_toArray, List.set_cons_zero, List.set_cons_succ])); (refine held_no 17 rfl (by kernel_rfl) (by kernel_rfl) (by kernel_rfl) (fun _ _ _ h => h) (by rfl) (by assumption) ?_; (try simp only [Act.put, List.setIfInBounds_toArray, List.set_cons_zero, List.set_cons_succ])); (refine held_no 18 rfl (by kernel_rfl) (by kernel_rfl) (by kernel_rfl) (fun _ _ _ h => h) (by rfl) (by assumption) ?_; (try simp only [Act.put, List.setIfInBounds_toArray, List.set_cons_zero, List.set_cons_succ])); (refine held_no 19 rfl (by kernel_rfl) (by kernel_rfl) (by kernel_rfl) (fun _ _ _ h => h) (by rfl) (by assumption) ?_; (try simp only [Act.put, List.setIfInBounds_toArray, List.set_cons_zero, List.set_cons_succ])); (refine held_no 20 rfl (by kernel_rfl) (by kernel_rfl) (by kernel_rfl) (fun _ _ _ h => h) (by rfl) (by assumption) ?_; (try simp only [Act.put, List.setIfInBounds_toArray, List.set_cons_zero, List.set_cons_succ]))
                (refine held_yes (v := ?_) 21 rfl (by kernel_rfl) (by kernel_rfl) (by kernel_rfl) (fun _ _ _ h => h) (by rfl) (by assumption) ?_ ?_; rotate_left; focus ((intro w hSw); (try dsimp only at hSw); go_simp; (try with_reducible rfl)); (try simp only [Act.put, List.setIfInBounds_toArray, List.set_cons_zero, List.set_cons_succ])); (refine held_yes (v := ?_) 22 rfl (by kernel_rfl) (by kernel_rfl) (by kernel_rfl) (fun _ _ _ h => h) (by rfl) (by assumption) ?_ ?_; rotate_left; focus ((intro w hSw); (try dsimp only at hSw); go_simp; (try with_reducible rfl)); (try simp only [Act.put, List.setIfInBounds_toArray, List.set_cons_zero, List.set_cons_succ]))
                (refine held_no 23 rfl (by kernel_rfl) (by kernel_rfl) (by kernel_rfl) (fun _ _ _ h => h) (by rfl) (by assumption) ?_; (try simp only [Act.put, List.setIfInBounds_toArray, List.set_cons_zero, List.set_cons_succ])); (refine held_no 24 rfl (by kernel_rfl) (by kernel_rfl) (by kernel_rfl) (fun _ _ _ h => h) (by rfl) (by assumption) ?_; (try simp only [Act.put, List.setIfInBounds_toArray, List.set_cons_zero, List.set_cons_succ]))
                (refine held_yes (v := ?_) 25 rfl (by kernel_rfl) (by kernel_rfl) (by kernel_rfl) (fun _ _ _ h => h) (by rfl) (by assumption) ?_ ?_; rotate_left; focus ((intro w hSw); (try dsimp only at hSw); go_simp; (try with_reducible rfl)); (try simp only [Act.put, List.setIfInBounds_toArray, List.set_cons_zero, List.set_cons_succ])); (refine held_yes (v := ?_) 26 rfl (by kernel_rfl) (by kernel_rfl) (by kernel_rfl) (fun _ _ _ h => h) (by rfl) (by assumption) ?_ ?_; rotate_left; focus ((intro w hSw); (try dsimp only at hSw); go_simp; (try with_reducible rfl)); (try simp only [Act.put, List.setIfInBounds_toArray, List.set_cons_zero, List.set_cons_succ]))
                refine wpAnyH_done (by kernel_rfl) ?_ _
                go_wp2
                go_ret
                exact ⟨⟨_, rfl, fun h => (by cases h)⟩, HT.low⟩
              | true =>
                (refine held_yes (v := ?_) 7 rfl (by kernel_rfl) (by kernel_rfl) (by kernel_rfl) (fun _ _ _ h => h) (by rfl) (by assumption) ?_ ?_; rotate_left; focus ((intro w hSw); (try dsimp only at hSw); go_simp; (try with_reducible rfl)); (try simp only [Act.put, List.setIfInBounds_toArray, List.set_cons_zero, List.set_cons_succ])); (refine held_yes (v := ?_) 8 rfl (by kernel_rfl) (by kernel_rfl) (by kernel_rfl) (fun _ _ _ h => h) (by rfl) (by assumption) ?_ ?_; rotate_left; focus ((intro w hSw); (try dsimp only at hSw); go_simp; (try with_reducible rfl)); (try simp only [Act.put, List.setIfInBounds_toArray, List.set_cons_zero, List.set_cons_succ])); (refine held_yes (v := ?_) 9 rfl (by kernel_rfl) (by kernel_rfl) (by kernel_rfl) (fun _ _ _ h => h) (by rfl) (by assumption) ?_ ?_; rotate_left; focus ((intro w hSw); (try dsimp only at hSw); go_simp; (try with_reducible rfl)); (try simp only [Act.put, List.setIfInBounds_toArray, List.set_cons_zero, List.set_cons_succ])); (refine held_yes (v := ?_) 10 rfl (by kernel_rfl) (by kernel_rfl) (by kernel_rfl) (fun _ _ _ h => h) (by rfl) (by assumption) ?_ ?_; rotate_left; focus ((intro w hSw); (try dsimp only at hSw); go_simp; (try with_reducible rfl)); (try simp only [Act.put, List.setIfInBounds_toArray, List.set_cons_zero, List.set_cons_succ]))
                (refine held_call 11 rfl (by kernel_rfl) (fun K hK => ?_); go_simp)
                go_at_call 35; refine (SG.out _ HT.low).mono ?_; rintro e wq ⟨y2, rfl, hy2, hbq⟩; have HT := HT.later hbq; have cq := HT.a.1; have HY2 := Lib.hid hy2
                (refine hK.out _ _ (HT.a.1) (fun hHeld => ?_); clear hK K; (try simp only [Act.put, List.setIfInBounds_toArray, List.set_cons_zero, List.set_cons_succ]))
                (refine held_call 12 rfl (by kernel_rfl) (fun K hK => ?_); go_simp)
                go_at_call 30; refine (M2.out _ _ HT.low HY2.out).mono ?_; rintro e wq ⟨rfl, hbq⟩; have HT := HT.later hbq; have cq := HT.a.1
                (refine hK.out _ _ (HT.a.1) (fun hHeld => ?_); clear hK K; (try simp only [Act.put, List.setIfInBounds_toArray, List.set_cons_zero, List.set_cons_succ]))
                (refine held_yes (v := ?_) 13 rfl (by kernel_rfl) (by kernel_rfl) (by kernel_rfl) (fun _ _ _ h => h) (by rfl) (by assumption) ?_ ?_; rotate_left; focus ((intro w hSw); (try dsimp only at hSw); go_simp; (try with_reducible rfl)); (try simp only [Act.put, List.setIfInBounds_toArray, List.set_cons_zero, List.set_cons_succ])); (refine held_yes (v := ?_) 14 rfl (by kernel_rfl) (by kernel_rfl) (by kernel_rfl) (fun _ _ _ h => h) (by rfl) (by assumption) ?_ ?_; rotate_left; focus ((intro w hSw); (try dsimp only at hSw); go_simp; (try with_reducible rfl)); (try simp only [Act.put, List.setIfInBounds_toArray, List.set_cons_zero, List.set_cons_succ]))
                cases r2 with
                | false =>
                  (refine held_no 15 rfl (by kernel_rfl) (by kernel_rfl) (by kernel_rfl) (fun _ _ _ h => h) (by rfl) (by assumption) ?_; (try simp only [Act.put, List.setIfInBounds_toArray, List.set_cons_zero, List.set_cons_succ])); (refine held_no 16 rfl (by kernel_rfl) (by kernel_rfl) (by kernel_rfl) (fun _ _ _ h => h) (by rfl) (by assumption) ?_; (try simp only [Act.put, List.setIfInBounds_toArray, List.set_cons_zero, List.set_cons_succ])); (refine held_no 17 rfl (by kernel_rfl) (by kernel_rfl) (by kernel_rfl) (fun _ _ _ h => h) (by rfl) (by assumption) ?_; (try simp only [Act.put, List.setIfInBounds_toArray, List.set_cons_zero, List.set_cons_succ])); (refine held_no 18 rfl (by kernel_rfl) (by kernel_rfl) (by kernel_rfl) (fun _ _ _ h => h) (by rfl) (by assumption) ?_; (try simp only [Act.put, List.setIfInBounds_toArray, List.set_cons_zero, List.set_cons_succ])); (refine held_no 19 rfl (by kernel_rfl) (by kernel_rfl) (by kernel_rfl) (fun _ _ _ h => h) (by rfl) (by assumption) ?_; (try simp only [Act.put, List.setIfInBounds_toArray, List.set_cons_zero, List.set_cons_succ])); (refine held_no 20 rfl (by kernel_rfl) (by kernel_rfl) (by kernel_rfl) (fun _ _ _ h => h) (by rfl) (by assumption) ?_; (try simp only [Act.put, List.setIfInBounds_toArray, List.set_cons_zero, List.set_cons_succ]))
                  (refine held_yes (v := ?_) 21 rfl (by kernel_rfl) (by kernel_rfl) (by kernel_rfl) (fun _ _ _ h => h) (by rfl) (by assumption) ?_ ?_; rotate_left; focus ((intro w hSw); (try dsimp only at hSw); go_simp; (try with_reducible rfl)); (try simp only [Act.put, List.setIfInBounds_toArray, List.set_cons_zero, List.set_cons_succ])); (refine held_yes (v := ?_) 22 rfl (by kernel_rfl) (by kernel_rfl) (by kernel_rfl) (fun _ _ _ h => h) (by rfl) (by assumption) ?_ ?_; rotate_left; focus ((intro w hSw); (try dsimp only at hSw); go_simp; (try with_reducible rfl)); (try simp only [Act.put, List.setIfInBounds_toArray, List.set_cons_zero, List.set_cons_succ]))
                  (refine held_no 23 rfl (by kernel_rfl) (by kernel_rfl) (by kernel_rfl) (fun _ _ _ h => h) (by rfl) (by assumption) ?_; (try simp only [Act.put, List.setIfInBounds_toArray, List.set_cons_zero, List.set_cons_succ])); (refine held_no 24 rfl (by kernel_rfl) (by kernel_rfl) (by kernel_rfl) (fun _ _ _ h => h) (by rfl) (by assumption) ?_; (try simp only [Act.put, List.setIfInBounds_toArray, List.set_cons_zero, List.set_cons_succ]))
                  (refine held_yes (v := ?_) 25 rfl (by kernel_rfl) (by kernel_rfl) (by kernel_rfl) (fun _ _ _ h => h) (by rfl) (by assumption) ?_ ?_; rotate_left; focus ((intro w hSw); (try dsimp only at hSw); go_simp; (try with_reducible rfl)); (try simp only [Act.put, List.setIfInBounds_toArray, List.set_cons_zero, List.set_cons_succ])); (refine held_yes (v := ?_) 26 rfl (by kernel_rfl) (by kernel_rfl) (by kernel_rfl) (fun _ _ _ h => h) (by rfl) (by assumption) ?_ ?_; rotate_left; focus ((intro w hSw); (try dsimp only at hSw); go_simp; (try with_reducible rfl)); (try simp only [Act.put, List.setIfInBounds_toArray, List.set_cons_zero, List.set_cons_succ]))
                  refine wpAnyH_done (by kernel_rfl) ?_ _
                  go_wp2
                  go_ret
                  exact ⟨⟨_, rfl, fun h => (by cases h)⟩, HT.low⟩
                | true =>
                  (refine held_yes (v := ?_) 15 rfl (by kernel_rfl) (by kernel_rfl) (by kernel_rfl) (fun _ _ _ h => h) (by rfl) (by assumption) ?_ ?_; rotate_left; focus ((intro w hSw); (try dsimp only at hSw); go_simp; (try with_reducible rfl)); (try simp only [Act.put, List.setIfInBounds_toArray, List.set_cons_zero, List.set_cons_succ])); (refine held_yes (v := ?_) 16 rfl (by kernel_rfl) (by kernel_rfl) (by kernel_rfl) (fun _ _ _ h => h) (by rfl) (by assumption) ?_ ?_; rotate_left; focus ((intro w hSw); (try dsimp only at hSw); go_simp; (try with_reducible rfl)); (try simp only [Act.put, List.setIfInBounds_toArray, List.set_cons_zero, List.set_cons_succ])); (refine held_yes (v := ?_) 17 rfl (by kernel_rfl) (by kernel_rfl) (by kernel_rfl) (fun _ _ _ h => h) (by rfl) (by assumption) ?_ ?_; rotate_left; focus ((intro w hSw); (try dsimp only at hSw); go_simp; (try with_reducible rfl)); (try simp only [Act.put, List.setIfInBounds_toArray, List.set_cons_zero, List.set_cons_succ])); (refine held_yes (v := ?_) 18 rfl (by kernel_rfl) (by kernel_rfl) (by kernel_rfl) (fun _ _ _ h => h) (by rfl) (by assumption) ?_ ?_; rotate_left; focus ((intro w hSw); (try dsimp only at hSw); go_simp; (try with_reducible rfl)); (try simp only [Act.put, List.setIfInBounds_toArray, List.set_cons_zero, List.set_cons_succ]))
                  (refine held_call 19 rfl (by kernel_rfl) (fun K hK => ?_); go_simp)
                  go_at_call 35; refine (SH.out _ HT.low).mono ?_; rintro e wq ⟨y3, rfl, hy3, hbq⟩; have HT := HT.later hbq; have cq := HT.a.1; have HY3 := Lib.hid hy3
                  (refine hK.out _ _ (HT.a.1) (fun hHeld => ?_); clear hK K; (try simp only [Act.put, List.setIfInBounds_toArray, List.set_cons_zero, List.set_cons_succ]))
                  (refine held_call 20 rfl (by kernel_rfl) (fun K hK => ?_); go_simp)
                  go_at_call 30; refine (M3.out _ _ HT.low HY3.out).mono ?_; rintro e wq ⟨rfl, hbq⟩; have HT := HT.later hbq; have cq := HT.a.1
                  (refine hK.out _ _ (HT.a.1) (fun hHeld => ?_); clear hK K; (try simp only [Act.put, List.setIfInBounds_toArray, List.set_cons_zero, List.set_cons_succ]))
                  (refine held_yes (v := ?_) 21 rfl (by kernel_rfl) (by kernel_rfl) (by kernel_rfl) (fun _ _ _ h => h) (by rfl) (by assumption) ?_ ?_; rotate_left; focus ((intro w hSw); (try dsimp only at hSw); go_simp; (try with_reducible rfl)); (try simp only [Act.put, List.setIfInBounds_toArray, List.set_cons_zero, List.set_cons_succ])); (refine held_yes (v := ?_) 22 rfl (by kernel_rfl) (by kernel_rfl) (by kernel_rfl) (fun _ _ _ h => h) (by rfl) (by assumption) ?_ ?_; rotate_left; focus ((intro w hSw); (try dsimp only at hSw); go_simp; (try with_reducible rfl)); (try simp only [Act.put, List.setIfInBounds_toArray, List.set_cons_zero, List.set_cons_succ]))
                  cases r3 with
                  | false =>
                    (refine held_no 23 rfl (by kernel_rfl) (by kernel_rfl) (by kernel_rfl) (fun _ _ _ h => h) (by rfl) (by assumption) ?_; (try simp only [Act.put, List.setIfInBounds_toArray, List.set_cons_zero, List.set_cons_succ])); (refine held_no 24 rfl (by kernel_rfl) (by kernel_rfl) (by kernel_rfl) (fun _ _ _ h => h) (by rfl) (by assumption) ?_; (try simp only [Act.put, List.setIfInBounds_toArray, List.set_cons_zero, List.set_cons_succ]))
                    (refine held_yes (v := ?_) 25 rfl (by kernel_rfl) (by kernel_rfl) (by kernel_rfl) (fun _ _ _ h => h) (by rfl) (by assumption) ?_ ?_; rotate_left; focus ((intro w hSw); (try dsimp only at hSw); go_simp; (try with_reducible rfl)); (try simp only [Act.put, List.setIfInBounds_toArray, List.set_cons_zero, List.set_cons_succ])); (refine held_yes (v := ?_) 26 rfl (by kernel_rfl) (by kernel_rfl) (by kernel_rfl) (fun _ _ _ h => h) (by rfl) (by assumption) ?_ ?_; rotate_left; focus ((intro w hSw); (try dsimp only at hSw); go_simp; (try with_reducible rfl)); (try simp only [Act.put, List.setIfInBounds_toArray, List.set_cons_zero, List.set_cons_succ]))
                    refine wpAnyH_done (by kernel_rfl) ?_ _
                    go_wp2
                    go_ret
                    exact ⟨⟨_, rfl, fun h => (by cases h)⟩, HT.low⟩
                  | true =>
                    (refine held_yes (v := ?_) 23 rfl (by kernel_rfl) (by kernel_rfl) (by kernel_rfl) (fun _ _ _ h => h) (by rfl) (by assumption) ?_ ?_; rotate_left; focus ((intro w hSw); (try dsimp only at hSw); go_simp; (try with_reducible rfl)); (try simp only [Act.put, List.setIfInBounds_toArray, List.set_cons_zero, List.set_cons_succ]))
                    (refine held_call 24 rfl (by kernel_rfl) (fun K hK => ?_); go_simp)
                    go_at_call 46; refine (FI.out _ HT.low).mono ?_; rintro e wq ⟨⟨bf, rfl⟩, hbq⟩; have HT := HT.later hbq; have cq := HT.a.1
                    (refine hK.out _ _ (HT.a.1) (fun hHeld => ?_); clear hK K; (try simp only [Act.put, List.setIfInBounds_toArray, List.set_cons_zero, List.set_cons_succ]))
                    (refine held_yes (v := ?_) 25 rfl (by kernel_rfl) (by kernel_rfl) (by kernel_rfl) (fun _ _ _ h => h) (by rfl) (by assumption) ?_ ?_; rotate_left; focus ((intro w hSw); (try dsimp only at hSw); go_simp; (try with_reducible rfl)); (try simp only [Act.put, List.setIfInBounds_toArray, List.set_cons_zero, List.set_cons_succ])); (refine held_yes (v := ?_) 26 rfl (by kernel_rfl) (by kernel_rfl) (by kernel_rfl) (fun _ _ _ h => h) (by rfl) (by assumption) ?_ ?_; rotate_left; focus ((intro w hSw); (try dsimp only at hSw); go_simp; (try with_reducible rfl)); (try simp only [Act.put, List.setIfInBounds_toArray, List.set_cons_zero, List.set_cons_succ]))
                    refine wpAnyH_done (by kernel_rfl) ?_ _
                    go_wp2
                    go_ret
                    exact ⟨⟨_, rfl, fun _ => ⟨HALL.out, E1.out (by first | rfl | trivial), E2.out (by first | rfl | trivial), E3.out (by first | rfl | trivial)⟩⟩, HT.low⟩
theorem ref5_Right (v0 v1 v2 v3 : Value) (l : List St) (g h : List Rl) (qs : List Qv) (w : World) (hp : PolAt w v0 v1 v2 v3 l g h qs) (hl : l.length ≤ 30) (hg : g.length ≤ 30) (hh : h.length ≤ 30) (hq : qs.length ≤ 30) (hl4 : allLe l 40) (hq40 : ∀ q ∈ qs, q.okN 40 w) :
    Calls Tryz.prog 20 #[pv v0 v1 v2 v3] w fun e w' => RightB l e ∧ Below w.heap.size w w' :=
  (ref5_RightF v0 v1 v2 v3 l g h qs w hp hl hg hh hq hl4 hq40).mono fun _ _ ⟨⟨b, he, hb⟩, hw⟩ => ⟨⟨b, he, fun h => (hb h).1⟩, hw⟩
end Go.Proofs.YtmpanikeeeoikaaGreat
namespace Go.Proofs.YtmpanikeeeoikaaGreat
open Go.RowKit Go.Shelf

theorem reach_iff (l : List St) (g h : List Rl) (m : List St) : reachS l g h m = true ↔ (∀ x ∈ m, rightS x = true ∧ (x ∈ l ∨ hasR g x.h = false)) ∧ ∀ x ∈ l, hasR h x.h = true → x ∈ m := by
  unfold reachS
  rw [Bool.and_eq_true, List.all_eq_true, Bool.not_eq_true', List.any_eq_false]
  have e1 : ∀ x, cOk l g x = true ↔ rightS x = true ∧ (x ∈ l ∨ hasR g x.h = false) := fun x => by
    unfold cOk; rw [Bool.and_eq_true, Bool.or_eq_true, Bool.not_eq_true', hasS_mem]
  have e2 : ∀ x, ¬ stays h m x = true ↔ (hasR h x.h = true → x ∈ m) := fun x => by
    unfold stays; rw [Bool.and_eq_true, Bool.not_eq_true', ← hasS_mem]
    cases hasR h x.h <;> cases hasS m x <;> simp
  simp only [e1, e2]
theorem reach_self {l : List St} {g h : List Rl} (hr : ∀ x ∈ l, rightS x = true) : reachS l g h l = true :=
  (reach_iff l g h l).2 ⟨fun x hx => ⟨hr x hx, .inl hx⟩, fun _ hx _ => hx⟩
theorem reach_trans {l m n : List St} {g h : List Rl} (h1 : reachS l g h m = true) (h2 : reachS m g h n = true) : reachS l g h n = true := by
  rw [reach_iff] at *
  refine ⟨fun x hx => ⟨(h2.1 x hx).1, ?_⟩, fun x hx hh => h2.2 x (h1.2 x hx hh) hh⟩
  rcases (h2.1 x hx).2 with h | h
  · exact (h1.1 x h).2
  · exact .inr h
theorem reach_more {l : List St} {g h : List Rl} {s : St} (hr : ∀ x ∈ l, rightS x = true) (hs : (rightS s && !hasR g s.h) = true) : reachS l g h (unionS l [s]) = true := by
  rw [Bool.and_eq_true, Bool.not_eq_true'] at hs
  refine (reach_iff _ _ _ _).2 ⟨fun x hx => ?_, fun x hx _ => (union_mem _ _ _).2 (.inl hx)⟩
  rcases (union_mem _ _ _).1 hx with hx | hx
  · exact ⟨hr x hx, .inl hx⟩
  · rw [List.mem_singleton.1 hx]; exact ⟨hs.1, .inr hs.2⟩
theorem reach_less {l : List St} {g h : List Rl} {x : St} (hr : ∀ x ∈ l, rightS x = true) (hx : x ∈ l) : reachS l g h (minusS l [x]) = !hasR h x.h := by
  cases e : hasR h x.h with
  | true =>
    rw [Bool.not_true, ← Bool.not_eq_true, reach_iff]
    intro hh
    have := (minus_mem _ _ _).1 (hh.2 x hx e)
    exact this.2 (List.mem_singleton.2 rfl)
  | false =>
    rw [Bool.not_false]
    refine (reach_iff _ _ _ _).2 ⟨fun y hy => ?_, fun y hy hh => (minus_mem _ _ _).2 ⟨hy, fun h1 => ?_⟩⟩
    · have := ((minus_mem _ _ _).1 hy).1
      exact ⟨hr y this, .inl this⟩
    · rw [List.mem_singleton.1 h1, e] at hh; cases hh
theorem union_le {l : List St} {s : St} {k : Nat} (hl : allLe l k) (hs : s.le k) : allLe (unionS l [s]) k := fun x hx => by
  rcases (union_mem _ _ _).1 hx with hx | hx
  · exact hl x hx
  · rw [List.mem_singleton.1 hx]; exact hs
theorem minus_le {l m : List St} {k : Nat} (hl : allLe l k) : allLe (minusS l m) k := fun x hx => hl x ((minus_mem _ _ _).1 hx).1
/-- A row of one statement, new in memory. -/
theorem row_new (k : Int) (h1 h2 who a1 a2 b1 b2 via : ByteArray) (w : World) : Sl (w.alloc (.cells #[.int .i64 k, .string h1, .string h2, .string who, .string a1, .string a2, .string b1, .string b2, .string via] 52)) 9 (.slice (some ⟨w.heap.size, 0, none⟩) 1 1)
    [(⟨k, ⟨h1, h2⟩, who, ⟨a1, a2⟩, ⟨b1, b2⟩, via⟩ : St)].length ([(⟨k, ⟨h1, h2⟩, who, ⟨a1, a2⟩, ⟨b1, b2⟩, via⟩ : St)].flatMap St.cells) :=
  Sl.new w [.int .i64 k, .string h1, .string h2, .string who, .string a1, .string a2, .string b1, .string b2, .string via] 52 9 1 w.heap.size rfl rfl (by simp [maxLen])
theorem row_aft (k : Int) (h1 h2 who a1 a2 b1 b2 via : ByteArray) {w w' : World} {n : Nat} (hn : w.heap.size = n) (hb : Below (w.alloc (.cells #[.int .i64 k, .string h1, .string h2, .string who, .string a1, .string a2, .string b1, .string b2, .string via] 52)).heap.size (w.alloc (.cells #[.int .i64 k, .string h1, .string h2, .string who, .string a1, .string a2, .string b1, .string b2, .string via] 52)) w') :
    Sl w' 9 (.slice (some ⟨n, 0, none⟩) 1 1) [(⟨k, ⟨h1, h2⟩, who, ⟨a1, a2⟩, ⟨b1, b2⟩, via⟩ : St)].length ([(⟨k, ⟨h1, h2⟩, who, ⟨a1, a2⟩, ⟨b1, b2⟩, via⟩ : St)].flatMap St.cells) := by
  have h := (row_new k h1 h2 who a1 a2 b1 b2 via w).below hb
  rw [hn] at h
  exact h
/-- Two blocks of a call's own that stand whole, the second at any place. -/
structure TwoG (w : World) (A : Array Value) (g : Nat) (B : Array Value) (wx : World) : Prop where
  a : Blk wx w.heap.size A
  b : Blk wx g B
  low : Below w.heap.size w wx
theorem TwoG.later {w wx w' : World} {A B : Array Value} {g : Nat} (h : TwoG w A g B wx) (hb : Below wx.heap.size wx w') : TwoG w A g B w' := ⟨h.a.below hb, h.b.below hb, h.low.trans (hb.mono h.low.size)⟩
theorem TwoG.alloc {w wx : World} {A B : Array Value} {g : Nat} (h : TwoG w A g B wx) (o : Obj) : TwoG w A g B (wx.alloc o) := h.later ((Below.refl _ _).alloc (Nat.le_refl _) o)
theorem TwoG.drew {w wx : World} {A B : Array Value} {g : Nat} (h : TwoG w A g B wx) : TwoG w A g B wx.drew := h.later (below_drew (Below.refl _ _))

end Go.Proofs.YtmpanikeeeoikaaGreat
