/- Whether a policy is light: crupperlaw05.Light. -/
import Derived.Test.YtmpanikeeeoikaaPolLight
import Derived.Test.YtmpanikeeeoikaaOneAt
namespace Go.Proofs.Ytmpanikeeeoikaa
open Go.RowKit Go.Shelf

/-- A policy's four slices in a world. -/
structure PolAt (w : World) (v0 v1 v2 v3 : Value) (l : List St) (g h : List Rl) (qs : List Qv) : Prop where
  rs : SlA w 9 v0 l.length (l.flatMap St.cells)
  rg : SlA w 2 v1 g.length (g.flatMap Rl.cells)
  rh : SlA w 2 v2 h.length (h.flatMap Rl.cells)
  rq : SlA w 6 v3 qs.length (qs.flatMap Qv.cells)
  ls : allLe l 9223372036854775807
  lg : ∀ x ∈ g, x.le 9223372036854775807
  lh : ∀ x ∈ h, x.le 9223372036854775807
  lq : ∀ x ∈ qs, x.ok w
theorem PolAt.below {w w' : World} {v0 v1 v2 v3 : Value} {l : List St} {g h : List Rl} {qs : List Qv} (p : PolAt w v0 v1 v2 v3 l g h qs) (hb : Below w.heap.size w w') : PolAt w' v0 v1 v2 v3 l g h qs :=
  ⟨p.rs.below hb, p.rg.below hb, p.rh.below hb, p.rq.below hb, p.ls, p.lg, p.lh, fun x hx => (p.lq x hx).below hb⟩
theorem rls_one (l : List Rl) : ∀ u ∈ l.flatMap Rl.cells, u.oneCell' = true := by
  intro u hu
  obtain ⟨x, _, hx⟩ := List.mem_flatMap.1 hu
  simp only [Rl.cells, List.mem_cons, List.not_mem_nil, or_false] at hx
  rcases hx with rfl | rfl <;> rfl
theorem rl_flat (l m : List Rl) : (l ++ m).flatMap Rl.cells = l.flatMap Rl.cells ++ m.flatMap Rl.cells := by simp

theorem rl_info' : (Try.prog.info? 28).map (fun i => (i.zero, i.size, i.bytes)) = some (some (.agg #[.string ByteArray.empty, .string ByteArray.empty]), 2, 32) := by kernel_rfl
/-- append of a row onto a row of the call's own, within a region that draws its order. -/
theorem step_row {P : Program} {w : World} {ops : Array Oper} {o : Oper} {a : Act} {K : Act → World → Prop} {Q : Exit → Act → World → Prop} {E : Prop} (hgd : o.guard = none) (s x : Operand) (t : TypeId)
    (ho : o.op = .call { callee := .builtin .append, args := #[s, x], argTypes := #[t, t] })
    (base : Nat) (e : TypeId) (i : TypeInfo) (z : Value) (size bytes : Nat) (ht : P.underlying t = some (.slice e)) (hi : P.info? e = some i) (hz : i.zero = some z)
    (hsize : i.size = size) (hby : i.bytes = bytes) (hb1000 : bytes ≤ 1000) (hzs : z.cells.size = size) (hsz : 0 < size)
    (v : Value) (n : Nat) (xs : List Value) (hs : a.eval s = v) (hown : w.ownsRow base e size v n xs)
    (va : Value) (m : Nat) (ys : List Value) (hx : a.eval x = va) (ha : SlA w size va m ys) (h1 : ∀ u ∈ ys, u.oneCell' = true)
    (hnm : n + m ≤ 100000000000) (hbase : base ≤ w.heap.size)
    (h : ∀ a' cap' w', w'.ownsRow base e size (.slice a' (n + m) cap') (n + m) (xs ++ ys) → w.grownBy w' v.ownBlock → K (a.put o.dst (.slice a' (n + m) cap')) w') :
    if Region.wanted o (yielded ops a.tmps) = true then Oper.wp P o a w K Q else E := by
  by_cases h0 : 0 < m
  · obtain ⟨b, off, c, rfl, hc, hm, hb, hcell⟩ := ha.pos h0
    have hl : ys.length = m * size := by
      rcases ha with ha | ⟨_, rfl, rfl⟩
      · exact ha.len
      · simp
    have hbb : (n + m) * bytes ≤ 140737488355328 := Nat.le_trans (Nat.mul_le_mul (Nat.le_refl _) hb1000) (by omega)
    exact step_append_lies w hgd s x t ho base e i z size bytes ht hi hz hsize hby hzs hsz v n xs hs hown ⟨b, off, none⟩ m c ys hx hl (fun j u hu => by rw [addr_add]; exact hcell j u hu) h1 h0 (by simp only [maxLen]; omega) hbb hbase _ rfl
      (fun g cap w' h1 h2 _ _ => h _ cap w' h1 h2)
  · obtain rfl : m = 0 := by omega
    have hy : ys = [] := by
      rcases ha with ha | ⟨_, _, rfl⟩
      · have := ha.len; exact List.eq_nil_of_length_eq_zero (by omega)
      · rfl
    subst hy
    obtain ⟨ax, cx, rfl⟩ := ha.form
    obtain ⟨ao, cap, rfl, hnc⟩ := own_form2 hown
    refine step_zero w hgd s x t ho e i ht hi ao n cap hnc hs ax cx hx ?_
    exact h ao cap w (by rw [List.append_nil]; exact hown) ⟨rfl, rfl, rfl, Nat.le_refl _, fun _ _ _ => rfl⟩

/-- The number of a query's principals is the same in a later world. -/
theorem okN_back {q : Qv} {n : Nat} {w W : World} (h : q.ok w) (_ : Below w.heap.size w W) (h' : q.okN n W) : q.okN n w := by
  obtain ⟨h1, h2, ss, h3, h4⟩ := h
  obtain ⟨_, _, ss', h3', h5, _⟩ := h'
  refine ⟨h1, h2, ss, h3, ?_, h4⟩
  obtain ⟨a, c, e⟩ := h3.form
  obtain ⟨a', c', e'⟩ := h3'.form
  rw [e] at e'
  simp only [Value.slice.injEq] at e'
  omega
/-- Some bool comes back; if it is true the policy is light. -/
def LightP (w : World) (l : List St) (g h : List Rl) (qs : List Qv) (e : Ending) : Prop := ∃ b, e = .returned (.bool b) ∧ (b = true → l.length ≤ 30 ∧ g.length ≤ 30 ∧ h.length ≤ 30 ∧ qs.length ≤ 30 ∧ allLe l 40 ∧ ∀ q ∈ qs, q.okN 40 w)
set_option maxRecDepth 100000 in
set_option maxHeartbeats 8000000 in
theorem law5_Light (v0 v1 v2 v3 : Value) (l : List St) (g h : List Rl) (qs : List Qv) (w : World) (hp : PolAt w v0 v1 v2 v3 l g h qs) :
    Calls Try.prog 7 #[pv v0 v1 v2 v3] w fun e w' => LightP w l g h qs e ∧ Below w.heap.size w w' := by
  have HP := Lib.hid hp
  have hm0 := hp.rs.max
  have hm1 := hp.rg.max
  have hm2 := hp.rh.max
  have hm3 := hp.rq.max
  obtain ⟨a0, c0, rfl⟩ := hp.rs.form
  obtain ⟨a1, c1, rfl⟩ := hp.rg.form
  obtain ⟨a2, c2, rfl⟩ := hp.rh.form
  obtain ⟨a3, c3, rfl⟩ := hp.rq.form
  have HL := Lib.hid (fun k (hk : k < l.length) W => law3_Light l[k] W (hp.ls _ (List.getElem_mem hk)))
  have T0 := Lib.hid (show OneAt w #[.slice a0 l.length c0, .slice a1 g.length c1, .slice a2 h.length c2, .slice a3 qs.length c3] (w.alloc (.cells #[.slice a0 l.length c0, .slice a1 g.length c1, .slice a2 h.length c2, .slice a3 qs.length c3] 26)) from ⟨Blk.new w _ _, (Below.refl _ _).alloc (Nat.le_refl _) _⟩)
  clear hp
  go_enter Try.func7, Try.ntmps7
  by_cases t0 : 30 < l.length
  · have d0 : decide ((30 : Int) < (l.length : Int)) = true := by (rw [decide_eq_true_iff]; omega)
    go_wp2
    go_ret
    exact ⟨⟨false, rfl, (fun h => by cases h)⟩, T0.out.low⟩
  have d0 : decide ((30 : Int) < (l.length : Int)) = false := by (rw [decide_eq_false_iff_not]; omega)
  by_cases t1 : 30 < g.length
  · have d1 : decide ((30 : Int) < (g.length : Int)) = true := by (rw [decide_eq_true_iff]; omega)
    go_wp2
    go_ret
    exact ⟨⟨false, rfl, (fun h => by cases h)⟩, T0.out.low⟩
  have d1 : decide ((30 : Int) < (g.length : Int)) = false := by (rw [decide_eq_false_iff_not]; omega)
  by_cases t2 : 30 < h.length
  · have d2 : decide ((30 : Int) < (h.length : Int)) = true := by (rw [decide_eq_true_iff]; omega)
    go_wp2
    go_ret
    exact ⟨⟨false, rfl, (fun h => by cases h)⟩, T0.out.low⟩
  have d2 : decide ((30 : Int) < (h.length : Int)) = false := by (rw [decide_eq_false_iff_not]; omega)
  by_cases t3 : 30 < qs.length
  · have d3 : decide ((30 : Int) < (qs.length : Int)) = true := by (rw [decide_eq_true_iff]; omega)
    go_wp2
    go_ret
    exact ⟨⟨false, rfl, (fun h => by cases h)⟩, T0.out.low⟩
  have d3 : decide ((30 : Int) < (qs.length : Int)) = false := by (rw [decide_eq_false_iff_not]; omega)
  go_wp2_with fail
  clear d0 d1 d2 d3
  go_loopw [34] (fun i wr => ∃ k : Nat, k ≤ l.length ∧ i = .int .i64 k ∧ Hid (OneAt w #[.slice a0 l.length c0, .slice a1 g.length c1, .slice a2 h.length c2, .slice a3 qs.length c3] wr) ∧ Hid (∀ j (hj : j < l.length), j < k → l[j].le 40)) (fun i _ => l.length - (intOf i).toNat)
  case atStart => exact ⟨0, by omega, rfl, T0, Lib.hid (fun _ _ h => absurd h (by omega))⟩
  case round =>
    obtain ⟨k, hk, rfl, TR, HJ⟩ := hrel
    by_cases hlt : k < l.length
    · obtain ⟨b1, o1, e1, he1, hc1, hm1', hb1, hx1⟩ := HP.out.rs.pos (by omega)
      simp only [Value.slice.injEq, true_and] at he1
      obtain ⟨rfl, rfl⟩ := he1
      obtain ⟨p0, p1, p2, p3, p4, p5, p6, p7, p8⟩ := st_cell (w := wr) (fun j u hu => (TR.out.low.cell (p := ⟨b1, o1 + j, none⟩) hb1).trans (hx1 j u hu)) k hlt
      have hbr : b1 < wr.heap.size := Nat.lt_of_lt_of_le hb1 TR.out.low.size
      have HLk := Lib.hid (fun W => HL.out k hlt W)
      clear hx1
      go_wp2_with fail
      refine (HLk.out _).mono ?_
      rintro e w2 ⟨b, rfl, hle, hb2⟩
      have HLE := Lib.hid hle
      have T2 := Lib.hid ((TR.out.alloc _).later hb2)
      clear hle hb2
      cases b with
      | false =>
        go_wp2
        go_ret
        exact ⟨⟨false, rfl, (fun h => by cases h)⟩, T2.out.low⟩
      | true =>
        have HJ2 : Hid (∀ j (hj : j < l.length), j < k + 1 → l[j].le 40) := Lib.hid (fun j hj hjk => by
          by_cases h : j < k
          · exact HJ.out j hj h
          · obtain rfl : j = k := by omega
            exact HLE.out (by first | rfl | trivial))
        go_wp2
        exact ⟨⟨k + 1, by omega, by go_num, T2, HJ2⟩, by simp [intOf]; omega⟩
    · have HJ3 := Lib.hid (show allLe l 40 from fun x hx => by
        obtain ⟨j, hj, rfl⟩ := List.getElem_of_mem hx
        exact HJ.out j hj (by omega))
      obtain ⟨ca, fa, za⟩ := TR.out.a
      clear HJ HL
      go_wp2_with fail
      go_loopw [45] (fun i wr => ∃ k : Nat, k ≤ qs.length ∧ i = .int .i64 k ∧ Hid (OneAt w #[.slice a0 l.length c0, .slice a1 g.length c1, .slice a2 h.length c2, .slice a3 qs.length c3] wr) ∧ Hid (∀ j (hj : j < qs.length), j < k → qs[j].okN 40 w)) (fun i _ => qs.length - (intOf i).toNat)
      case atStart => exact ⟨0, by omega, rfl, TR, Lib.hid (fun _ _ h => absurd h (by omega))⟩
      case round =>
        clear TR ca fa za
        obtain ⟨k, hk, rfl, TR, HQJ⟩ := hrel
        by_cases hlt : k < qs.length
        · obtain ⟨b1, o1, e1, he1, hc1, hm1', hb1, hx1⟩ := HP.out.rq.pos (by omega)
          simp only [Value.slice.injEq, true_and] at he1
          obtain ⟨rfl, rfl⟩ := he1
          obtain ⟨p0, p1, p2, p3, p4, p5⟩ := q_cell (w := wr) (fun j u hu => (TR.out.low.cell (p := ⟨b1, o1 + j, none⟩) hb1).trans (hx1 j u hu)) k hlt
          have hbr : b1 < wr.heap.size := Nat.lt_of_lt_of_le hb1 TR.out.low.size
          have hqo := HP.out.lq _ (List.getElem_mem hlt)
          have QL := Lib.hid (fun W (hb : Below w.heap.size w W) => law4_Light qs[k] W (hqo.below hb))
          have QB := Lib.hid (fun (W : World) (hb : Below w.heap.size w W) (h : qs[k].okN 40 W) => okN_back hqo hb h)
          have HQ2 : Hid (qs[k].okN 40 w → ∀ j (hj : j < qs.length), j < k + 1 → qs[j].okN 40 w) := Lib.hid (fun hpk j hj hjk => by
            by_cases h : j < k
            · exact HQJ.out j hj h
            · obtain rfl : j = k := by omega
              exact hpk)
          obtain ⟨wo, wc, hw5⟩ : ∃ a c, qs[k].w = .slice a ((hqo.2.2).choose).length c := ((hqo.2.2).choose_spec.1).form
          generalize (hqo.2.2).choose.length = nw at hw5
          have hek : qs[k] = ⟨qs[k].k, ⟨qs[k].a.o, qs[k].a.n⟩, ⟨qs[k].b.o, qs[k].b.n⟩, qs[k].w⟩ := rfl
          clear hx1 hqo
          generalize qs[k] = x at *
          obtain ⟨xk, ⟨x1, x2⟩, ⟨x3, x4⟩, xw⟩ := x
          dsimp only at hw5
          subst hw5
          clear hek
          have T2 := Lib.hid (TR.out.alloc (.cells #[.int .i64 xk, .string x1, .string x2, .string x3, .string x4, .slice wo nw wc] 51))
          go_wp2_with fail
          refine (QL.out _ T2.out.low).mono ?_
          rintro e w2 ⟨⟨b, rfl, hbq⟩, hb2⟩
          have T3 := Lib.hid (T2.out.later hb2)
          have HBQ := Lib.hid (fun h => HQ2.out (QB.out _ T2.out.low (hbq h)))
          clear hb2 hbq
          cases b with
          | false =>
            go_wp2
            go_ret
            exact ⟨⟨false, rfl, (fun h => by cases h)⟩, T3.out.low⟩
          | true =>
            go_wp2
            exact ⟨⟨k + 1, by omega, by go_num, T3, Lib.hid (HBQ.out (by first | rfl | trivial))⟩, by simp [intOf]; omega⟩
        · have HQA := Lib.hid (show ∀ q ∈ qs, q.okN 40 w from fun q hq => by
            obtain ⟨j, hj, rfl⟩ := List.getElem_of_mem hq
            exact HQJ.out j hj (by omega))
          obtain ⟨inf, hi, hz0, hz1, hz2⟩ := info_parts rl_info'
          have HINF := Lib.hid hi
          have T2 := TR.out.drew
          have hown : (wr.drew.alloc (.cells #[] 28)).ownsRow wr.heap.size 28 2 (.slice (some ⟨wr.heap.size, 0, none⟩) 0 0) 0 [] := World.ownsRow_made wr.drew #[] 0 (Nat.le_refl _) (Nat.zero_le _) (by simp)
          have hlow : Below wr.heap.size wr (wr.drew.alloc (.cells #[] 28)) := (below_drew (Below.refl _ _)).alloc (Nat.le_refl _) _
          have T4 := TR.out.later hlow
          obtain ⟨ca, fa, za⟩ := TR.out.a
          have hza : w.heap.size < wr.heap.size := za
          clear hi fa za
          go_wp2_with fail
          go_region_held3 (fun W => ∀ o, W.cell? ⟨w.heap.size, o, none⟩ = (#[.slice a0 l.length c0, .slice a1 g.length c1, .slice a2 h.length c2, .slice a3 qs.length c3] : Array Value)[o]?)
            (first | exact T2.a.1 | exact T4.a.1 | exact T5.a.1 | exact T6.a.1 | go_keep)
            (first
              | (refine step_row rfl _ _ 23 rfl wr.heap.size 28 inf _ 2 32 Try.underlying23 HINF.out hz0 hz1 hz2 (Nat.le_of_ble_eq_true rfl) rfl (Nat.le_of_ble_eq_true rfl) _ 0 [] rfl hown _ g.length _ rfl (HP.out.rg.below T4.low) (rls_one _) ?_ hlow.size ?_; omega; intro a5 c5 w5 hown5 hg5; have hb5 := below_own hlow hown hg5 hlow.size (Nat.le_refl _); have T5 := TR.out.later hb5)
              | (refine step_row rfl _ _ 23 rfl wr.heap.size 28 inf _ 2 32 Try.underlying23 HINF.out hz0 hz1 hz2 (Nat.le_of_ble_eq_true rfl) rfl (Nat.le_of_ble_eq_true rfl) _ (0 + g.length) _ rfl hown5 _ h.length _ rfl (HP.out.rh.below T5.low) (rls_one _) ?_ hb5.size ?_; omega; intro a6 c6 w6 hown6 hg6; have hb6 := below_own hb5 hown5 hg6 hb5.size (Nat.le_refl _); have T6 := TR.out.later hb6; obtain ⟨n6, hn6⟩ : ∃ n6, n6 = 0 + g.length + h.length := ⟨_, rfl⟩; rw [← hn6] at hown6 ⊢; have HN6 := Lib.hid hn6; clear hn6))
          have HS6 := Lib.hid (show Sl w6 2 (.slice a6 n6 c6) n6 ((g ++ h).flatMap Rl.cells) by have := Sl.of_own hown6; rw [rl_flat]; simpa using this)
          have HLe := Lib.hid (show ∀ x ∈ g ++ h, x.le 9223372036854775807 from fun x hx => by
            rcases List.mem_append.1 hx with hx | hx
            · exact HP.out.lg x hx
            · exact HP.out.lh x hx)
          have HN := Lib.hid (show n6 = (g ++ h).length by rw [HN6.out, List.length_append]; omega)
          have HB6 := Lib.hid T6.low
          have hn6m : n6 ≤ 1000 := by have := HN6.out; omega
          generalize g ++ h = gh at HS6 HLe HN
          clear hown5 hown6 hg5 hg6 hb5 hb6 T2 T4 T5 T6 hlow hown ca hza TR HN6
          go_wp2_with fail
          go_loopw [61] (fun i wr => ∃ k : Nat, k ≤ n6 ∧ i = .int .i64 k ∧ Hid (Below w6.heap.size w6 wr)) (fun i _ => n6 - (intOf i).toNat)
          case atStart => exact ⟨0, by omega, rfl, Lib.hid (Below.refl _ _)⟩
          case round =>
            obtain ⟨k, hk, rfl, HB⟩ := hrel
            by_cases hlt : k < n6
            · obtain ⟨b1, o1, e1, he1, hc1, hm1', hb1, hx1⟩ := HS6.out.pos (by omega)
              simp only [Value.slice.injEq, true_and] at he1
              obtain ⟨rfl, rfl⟩ := he1
              have hlt2 : k < gh.length := by have := HN.out; omega
              obtain ⟨p0, p1⟩ := rl_cell (w := wr) (fun j u hu => (HB.out.cell (p := ⟨b1, o1 + j, none⟩) hb1).trans (hx1 j u hu)) k hlt2
              have hbr : b1 < wr.heap.size := Nat.lt_of_lt_of_le hb1 HB.out.size
              have hle := HLe.out _ (List.getElem_mem hlt2)
              clear hx1
              generalize gh[k] = x at *
              obtain ⟨x1, x2⟩ := x
              have hz1' : x1.size ≤ 9223372036854775807 := hle.1
              have hz2' : x2.size ≤ 9223372036854775807 := hle.2
              have HB2 := Lib.hid (HB.out.alloc HB.out.size (.cells #[.string x1, .string x2] 28))
              clear hle
              by_cases q1 : 40 < x1.size
              · have d1 : decide ((40 : Int) < (x1.size : Int)) = true := by (rw [decide_eq_true_iff]; omega)
                clear q1
                go_wp2
                go_ret
                exact ⟨⟨false, rfl, (fun h => by cases h)⟩, HB6.out.trans (HB2.out.mono HB6.out.size)⟩
              have d1 : decide ((40 : Int) < (x1.size : Int)) = false := by (rw [decide_eq_false_iff_not]; omega)
              clear q1
              by_cases q2 : 40 < x2.size
              · have d2 : decide ((40 : Int) < (x2.size : Int)) = true := by (rw [decide_eq_true_iff]; omega)
                clear q2
                go_wp2
                go_ret
                exact ⟨⟨false, rfl, (fun h => by cases h)⟩, HB6.out.trans (HB2.out.mono HB6.out.size)⟩
              have d2 : decide ((40 : Int) < (x2.size : Int)) = false := by (rw [decide_eq_false_iff_not]; omega)
              clear q2
              go_wp2
              exact ⟨⟨k + 1, by omega, by go_num, HB2⟩, by simp [intOf]; omega⟩
            · go_wp2
              go_ret
              exact ⟨⟨true, rfl, (fun _ => ⟨by omega, by omega, by omega, by omega, HJ3.out, HQA.out⟩)⟩, HB6.out.trans (HB.out.mono HB6.out.size)⟩
end Go.Proofs.Ytmpanikeeeoikaa
