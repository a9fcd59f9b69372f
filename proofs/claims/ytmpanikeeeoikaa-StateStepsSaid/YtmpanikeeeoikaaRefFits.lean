/- crupperref05.Fits, crupperref04.Right, crupperref03.SameRoles: some bool comes back. -/
import Derived.Test.YtmpanikeeeoikaaRefPrins
namespace Go.Proofs.Ytmpanikeeeoikaa
open Go.RowKit Go.Shelf

set_option maxRecDepth 100000 in
set_option maxHeartbeats 8000000 in
theorem ref5_Fits (v0 v1 v2 v3 : Value) (l : List St) (g h : List Rl) (qs : List Qv) (w : World) (hp : PolAt w v0 v1 v2 v3 l g h qs) (hl : l.length ≤ 80) (hg : g.length ≤ 40) (hh : h.length ≤ 40) (hq : qs.length ≤ 100) (hq40 : ∀ q ∈ qs, q.okN 40 w) :
    Calls Try.prog 53 #[pv v0 v1 v2 v3] w fun e w' => AnyB e ∧ Below w.heap.size w w' := by
  have PR := Lib.hid (fun W (hb : Below w.heap.size w W) => ref5_Prins v0 v1 v2 v3 l g h qs W (hp.below hb) (by omega) (by omega) (by omega) hq (fun q hq => (hq40 q hq).below hb))
  have NA := Lib.hid (fun W (hb : Below w.heap.size w W) => ref5_Names v0 v1 v2 v3 l g h qs W (hp.below hb) (by omega) (by omega) (by omega) hq (fun q hq => (hq40 q hq).below hb))
  obtain ⟨a0, c0, rfl⟩ := hp.rs.form
  obtain ⟨a1, c1, rfl⟩ := hp.rg.form
  obtain ⟨a2, c2, rfl⟩ := hp.rh.form
  obtain ⟨a3, c3, rfl⟩ := hp.rq.form
  have HT := Lib.hid (show OneAt w #[.slice a0 l.length c0, .slice a1 g.length c1, .slice a2 h.length c2, .slice a3 qs.length c3] (w.alloc (.cells #[.slice a0 l.length c0, .slice a1 g.length c1, .slice a2 h.length c2, .slice a3 qs.length c3] 26)) from ⟨Blk.new w _ _, (Below.refl _ _).alloc (Nat.le_refl _) _⟩)
  have d0 : decide ((80 : Int) < (l.length : Int)) = false := by (rw [decide_eq_false_iff_not]; omega)
  have d1 : decide ((40 : Int) < (g.length : Int)) = false := by (rw [decide_eq_false_iff_not]; omega)
  have d2 : decide ((40 : Int) < (h.length : Int)) = false := by (rw [decide_eq_false_iff_not]; omega)
  clear hp hq40
  go_enter Try.func53, Try.ntmps53
  by_cases t3 : 16 < qs.length
  · have d3 : decide ((16 : Int) < (qs.length : Int)) = true := by (rw [decide_eq_true_iff]; omega)
    go_wp2
    go_ret
    exact ⟨⟨false, rfl⟩, HT.out.low⟩
  have d3 : decide ((16 : Int) < (qs.length : Int)) = false := by (rw [decide_eq_false_iff_not]; omega)
  go_wp2_with fail
  refine (PR.out _ HT.out.low).mono ?_
  rintro e w1 ⟨x1, rfl, hx1, hb1⟩
  have HT := Lib.hid (HT.out.later hb1)
  obtain ⟨ss, hs1, hs2, _⟩ := hx1
  obtain ⟨xo, xc, rfl⟩ := hs1.form
  obtain ⟨ca, fa, za⟩ := HT.out.a
  clear hb1 hs1
  by_cases t4 : ss.length ≤ 16
  · have d4 : decide ((ss.length : Int) ≤ 16) = true := by (rw [decide_eq_true_iff]; omega)
    have d4' : decide (ss.length ≤ 16) = true := by (rw [decide_eq_true_iff]; omega)
    go_wp2_with fail
    refine (NA.out _ HT.out.low).mono ?_
    rintro e w2 ⟨x2, rfl, hx2, hb2⟩
    have HT2 := Lib.hid (HT.out.later hb2)
    obtain ⟨us, hu1, hu2, _⟩ := hx2
    obtain ⟨yo, yc, rfl⟩ := hu1.form
    clear hb2 hu1
    go_wp2
    go_ret
    exact ⟨⟨_, rfl⟩, HT2.out.low⟩
  · have d4 : decide ((ss.length : Int) ≤ 16) = false := by (rw [decide_eq_false_iff_not]; omega)
    have d4' : decide (ss.length ≤ 16) = false := by (rw [decide_eq_false_iff_not]; omega)
    go_wp2
    go_ret
    exact ⟨⟨false, rfl⟩, HT.out.low⟩

set_option maxRecDepth 100000 in
set_option maxHeartbeats 1000000 in
theorem ref3_SameRolesB (va vb : Value) (l m : List Rl) (w : World) (ha : SlA w 2 va l.length (l.flatMap Rl.cells)) (hb : SlA w 2 vb m.length (m.flatMap Rl.cells)) :
    Calls Try.prog 51 #[va, vb] w fun e w' => AnyB e ∧ Below w.heap.size w w' := by
  have HA := Lib.hid ha
  have HB := Lib.hid hb
  have hmax := ha.max
  have hmax2 := hb.max
  obtain ⟨ao, ac, rfl⟩ := ha.form
  obtain ⟨bo, bc, rfl⟩ := hb.form
  clear ha hb
  go_enter Try.func51, Try.ntmps51
  by_cases hl : l.length = m.length
  case neg =>
    have d : ((l.length : Int) != (m.length : Int)) = true := by rw [bne_iff_ne]; omega
    go_wp2
    go_ret
    exact ⟨⟨false, rfl⟩, Below.refl _ _⟩
  have hne : ((l.length : Int) != (m.length : Int)) = false := by rw [hl]; simp
  have HLM := Lib.hid hl
  have hNe := role_neq
  clear hl
  go_wp2
  go_loopw [13] (fun i wr => ∃ k n : Nat, k ≤ l.length ∧ i = .int .i64 k ∧ wr = w.drewN n) (fun i _ => l.length - (intOf i).toNat)
  case atStart => exact ⟨0, 0, by omega, rfl, rfl⟩
  case round =>
    obtain ⟨k, n, hk, rfl, rfl⟩ := hrel
    by_cases hlt : k < l.length
    · have hlt2 : k < m.length := by have := HLM.out; omega
      obtain ⟨b1, o1, e1, he1, hc1, hm1, hb1, hx1⟩ := HA.out.pos (by omega)
      obtain ⟨b2, o2, e2, he2, hc2, hm2, hb2, hx2⟩ := HB.out.pos (by omega)
      simp only [Value.slice.injEq, true_and] at he1 he2
      obtain ⟨rfl, rfl⟩ := he1
      obtain ⟨rfl, rfl⟩ := he2
      obtain ⟨p0, p1⟩ := rl_cell (w := w) hx1 k hlt
      obtain ⟨q0, q1⟩ := rl_cell (w := w) hx2 k hlt2
      clear hx1 hx2
      cases hd : eqRl ⟨l[k].o, l[k].n⟩ ⟨m[k].o, m[k].n⟩ with
      | true =>
        go_wp2_with fail
        go_big_quiet (fail)
        go_wp2
        exact ⟨⟨k + 1, n + nq, by omega, by go_num, rfl⟩, by simp [intOf]; omega⟩
      | false =>
        go_wp2_with fail
        go_big_quiet (fail)
        go_wp2
        go_ret
        exact ⟨⟨false, rfl⟩, below_drewN (below_of_drewN n) nq⟩
    · go_wp2
      go_ret
      exact ⟨⟨true, rfl⟩, below_of_drewN n⟩
end Go.Proofs.Ytmpanikeeeoikaa
