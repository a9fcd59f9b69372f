/- slices.Concat at two rows of statements, and state.Union. -/
import Derived.Test.YtmpanikeeeoikaaStFns
namespace Go.Proofs.Ytmpanikeeeoikaa
open Go.RowKit Go.Shelf

/-- 'out = append(out, row...)', out a row of the call's own, the row whatever an argument may be. -/
theorem app_row {P : Program} {w : World} {ops : Array Oper} {rest : List Oper} {o : Oper} {a : Act} {Q : Exit → Act → World → Prop} {t e : TypeId} {z : Value} {size bytes : Nat}
    (ht : P.underlying t = some (.slice e)) (hinfo : (P.info? e).map (fun i => (i.zero, i.size, i.bytes)) = some (some z, size, bytes)) (hzs : z.cells.size = size) (hsz : 0 < size) (hby : bytes ≤ 1000)
    (hgd : o.guard = none) (s x : Operand) (ho : o.op = .call { callee := .builtin .append, args := #[s, x], argTypes := #[t, t] })
    (B : Nat) {v : Value} {n : Nat} {xs : List Value} (hs : a.eval s = v) (hown : w.ownsRow B e size v n xs)
    {va : Value} {m : Nat} {ys : List Value} (hx : a.eval x = va) (ha : SlA w size va m ys) (h1 : ∀ u ∈ ys, u.oneCell' = true)
    (hn : n + m ≤ 100000000000) (hB : B ≤ w.heap.size)
    (h : ∀ a' cap' w', w'.ownsRow B e size (.slice a' (n + m) cap') (n + m) (xs ++ ys) → w.grownBy w' v.ownBlock → wpList P ops Q rest (a.put o.dst (.slice a' (n + m) cap')) w') : wpList P ops Q (o :: rest) a w := by
  obtain ⟨i, hi, hz0, hz1, hz2⟩ := info_parts hinfo
  by_cases h0 : 0 < m
  · obtain ⟨b, off, c, rfl, hc, hm, hb, hcell⟩ := ha.pos h0
    have hl : ys.length = m * size := by
      rcases ha with ha | ⟨_, rfl, rfl⟩
      · exact ha.len
      · simp
    have hbb : (n + m) * bytes ≤ 140737488355328 := Nat.le_trans (Nat.mul_le_mul (Nat.le_refl _) hby) (by omega)
    refine wpList_append_own _ hgd s x t ho B e i z size bytes ht hi hz0 hz1 hz2 hzs hsz v n xs hs hown ⟨b, off, none⟩ m c ys hx hl ?_ h1 (by simp only [maxLen]; omega) hbb hB ?_
    · intro j u hu
      rw [addr_add]; exact hcell j u hu
    · intro v' w' h1 h2 _
      obtain ⟨a', cap', rfl⟩ := own_form h1
      exact h a' cap' w' h1 h2
  · obtain rfl : m = 0 := by omega
    have hy : ys = [] := by
      rcases ha with ha | ⟨_, _, rfl⟩
      · have := ha.len; exact List.eq_nil_of_length_eq_zero (by omega)
      · rfl
    subst hy
    obtain ⟨ax, cx, rfl⟩ := ha.form
    obtain ⟨ao, cap, rfl, hnc⟩ := own_form2 hown
    refine app_zero _ hgd s x t ho e i ht hi ao n cap hnc hs ax cx hx ?_
    exact h ao cap w (by rw [List.append_nil]; exact hown) ⟨rfl, rfl, rfl, Nat.le_refl _, fun _ _ _ => rfl⟩

theorem st_Grow (n : Nat) (w : World) (hn : n ≤ 2000) : Calls Try.prog 65 #[.slice none 0 0, .int .i64 n] w fun e w' =>
    ∃ a cap, e = .returned (.slice a 0 cap) ∧ w'.ownsRow w.heap.size 30 9 (.slice a 0 cap) 0 [] ∧ Below w.heap.size w w' := by
  by_cases h0 : 0 < n
  · obtain ⟨inf, hinf, hz0, hz1, hz2⟩ := info_parts st_info
    refine (Any8.slices_Grow_grow Try.growL inf _ hinf hz0 (by omega) none 0 0 n [] w (Nat.le_refl _) (by omega) (by rw [hz2]; omega) (by omega) (by simp) (fun _ => rfl) (fun a h => by cases h)).mono ?_
    rintro e w' ⟨rfl, rfl⟩
    have hge := grownCap_ge w (0 + n) 0 30
    have hle := grownCap_le_maxLen w (0 + n) 0 30 (by simp only [maxLen]; omega)
    refine ⟨_, _, rfl, World.ownsRow_made w.drew _ _ (Nat.le_refl _) hle ?_, (below_drew (Below.refl _ _)).alloc (Nat.le_refl _) _⟩
    rw [Nat.zero_add] at hge hle ⊢
    simp [Builtin.zeroCells, Value.cells]
    rw [show Try.growL_ren.t 25 = 30 from rfl]
    omega
  · obtain rfl : n = 0 := by omega
    refine (Any8.slices_Grow_room Try.growL none 0 0 0 w (Nat.le_refl _) (by omega) (by omega) (by omega)).mono ?_
    rintro e w' ⟨rfl, rfl⟩
    exact ⟨_, _, rfl, World.ownsRow_nil _ _ _ _, Below.refl _ _⟩

theorem flat_app (l m : List St) : (l ++ m).flatMap St.cells = l.flatMap St.cells ++ m.flatMap St.cells := by simp

set_option maxRecDepth 100000 in
set_option maxHeartbeats 4000000 in
/-- slices.Concat of two rows. -/
theorem st_Concat (g : Nat) (va vb : Value) (l m : List St) (w : World) (hg : Blk w g #[va, vb]) (ha : SlA w 9 va l.length (l.flatMap St.cells)) (hb : SlA w 9 vb m.length (m.flatMap St.cells)) (hl : l.length ≤ 1000) (hm : m.length ≤ 1000) :
    Calls Try.prog 41 #[.slice (some ⟨g, 0, none⟩) 2 2] w fun e w' => ∃ v, e = .returned v ∧ Sl w' 9 v (l ++ m).length ((l ++ m).flatMap St.cells) ∧ Below w.heap.size w w' := by
  have HA := Lib.hid ha
  have HB := Lib.hid hb
  have HG := Lib.hid hg
  obtain ⟨ao, ac, hva⟩ := ha.form
  obtain ⟨bo, bc, hvb⟩ := hb.form
  subst hva hvb
  have GR : Hid (∀ W, Calls Try.prog 65 #[.slice none 0 0, .int .i64 ((l.length : Int) + (m.length : Int))] W fun e w' =>
      ∃ a cap, e = .returned (.slice a 0 cap) ∧ w'.ownsRow W.heap.size 30 9 (.slice a 0 cap) 0 [] ∧ Below W.heap.size W w') := Lib.hid (fun W => by
    have h := st_Grow (l.length + m.length) W (by omega)
    rw [Int.natCast_add] at h
    exact h)
  have c0 : w.cell? ⟨g, 0, none⟩ = some (.slice ao l.length ac) := (hg.1 0).trans rfl
  have c1 : w.cell? ⟨g, 1, none⟩ = some (.slice bo m.length bc) := (hg.1 1).trans rfl
  have hgw : g < w.heap.size := hg.2.2
  clear ha hb hg
  go_enter Try.func41, Try.ntmps41
  go_wp2
  go_loop [3, 11] (fun n i => (n = .int .i64 0 ∧ i = .int .i64 0) ∨ (n = .int .i64 l.length ∧ i = .int .i64 1) ∨ (n = .int .i64 ((l.length : Int) + (m.length : Int)) ∧ i = .int .i64 2)) (fun _ i => 2 - (intOf i).toNat)
  case atStart => exact .inl ⟨rfl, rfl⟩
  case round =>
    obtain ⟨rfl, rfl⟩ | ⟨rfl, rfl⟩ | ⟨rfl, rfl⟩ := hrel
    · have d : decide ((l.length : Int) < 0) = false := by (rw [decide_eq_false_iff_not]; omega)
      have hw : IntKind.i64.wrap ((0 : Int) + (l.length : Int)) = (l.length : Int) := by rw [Int.zero_add]; exact Go.IntWalk.i64_in _ (by omega)
      go_wp2
      exact ⟨.inr (.inl ⟨rfl, rfl⟩), by simp [intOf]⟩
    · have d : decide ((l.length : Int) + (m.length : Int) < 0) = false := by (rw [decide_eq_false_iff_not]; omega)
      have hw : IntKind.i64.wrap ((l.length : Int) + (m.length : Int)) = (l.length : Int) + (m.length : Int) := Go.IntWalk.i64_in _ (by omega)
      go_wp2
      exact ⟨.inr (.inr ⟨rfl, rfl⟩), by simp [intOf]⟩
    · go_wp2_with fail
      refine (GR.out _).mono ?_
      rintro e w1 ⟨a1, cap1, rfl, hown, hb1⟩
      have HO := Lib.hid hown
      have HB1 := Lib.hid hb1
      clear hown hb1 c0 c1 hgw
      go_wp2_with fail
      go_loopw [6, 27] (fun vo i wr => Hid (Below w.heap.size w wr) ∧ ((i = .int .i64 0 ∧ Hid (wr.ownsRow w.heap.size 30 9 vo 0 [])) ∨ (i = .int .i64 1 ∧ Hid (wr.ownsRow w.heap.size 30 9 vo l.length (l.flatMap St.cells))) ∨ (i = .int .i64 2 ∧ Hid (wr.ownsRow w.heap.size 30 9 vo (l.length + m.length) ((l ++ m).flatMap St.cells))))) (fun _ i _ => 2 - (intOf i).toNat)
      case atStart => exact ⟨HB1, .inl ⟨rfl, HO⟩⟩
      case round =>
        obtain ⟨HBR, ⟨rfl, HOR⟩ | ⟨rfl, HOR⟩ | ⟨rfl, HOR⟩⟩ := hrel
        · have hbk := HG.out.below HBR.out
          have c0 : wr.cell? ⟨g, 0, none⟩ = some (.slice ao l.length ac) := (hbk.1 0).trans rfl
          have hgw : g < wr.heap.size := hbk.2.2
          obtain ⟨xo, xc, rfl⟩ := own_form HOR.out
          clear hbk
          go_wp2_with (at_builtin; refine halt_ ?_)
          unfold Halt_
          refine app_row Try.underlying22 st_info rfl (by decide) (by decide) rfl _ _ rfl w.heap.size rfl HOR.out rfl (HA.out.below HBR.out) (sts_one _) (by omega) HBR.out.size ?_
          intro a' cap' w3 hown' hgrow
          have HO3 := Lib.hid (show w3.ownsRow w.heap.size 30 9 (.slice a' l.length cap') l.length (l.flatMap St.cells) by simpa using hown')
          have HB3 := Lib.hid (below_own HBR.out HOR.out hgrow HBR.out.size (Nat.le_refl _))
          clear hown' hgrow
          go_wp2_with fail
          exact ⟨⟨HB3, .inr (.inl ⟨rfl, HO3⟩)⟩, by simp [intOf]⟩
        · have hbk := HG.out.below HBR.out
          have c1 : wr.cell? ⟨g, 1, none⟩ = some (.slice bo m.length bc) := (hbk.1 1).trans rfl
          have hgw : g < wr.heap.size := hbk.2.2
          obtain ⟨xo, xc, rfl⟩ := own_form HOR.out
          clear hbk
          go_wp2_with (at_builtin; refine halt_ ?_)
          unfold Halt_
          refine app_row Try.underlying22 st_info rfl (by decide) (by decide) rfl _ _ rfl w.heap.size rfl HOR.out rfl (HB.out.below HBR.out) (sts_one _) (by omega) HBR.out.size ?_
          intro a' cap' w3 hown' hgrow
          have HO3 := Lib.hid (show w3.ownsRow w.heap.size 30 9 (.slice a' (l.length + m.length) cap') (l.length + m.length) ((l ++ m).flatMap St.cells) by rw [flat_app]; exact hown')
          have HB3 := Lib.hid (below_own HBR.out HOR.out hgrow HBR.out.size (Nat.le_refl _))
          clear hown' hgrow
          go_wp2_with fail
          exact ⟨⟨HB3, .inr (.inr ⟨rfl, HO3⟩)⟩, by simp [intOf]⟩
        · obtain ⟨xo, xc, rfl⟩ := own_form HOR.out
          have HS := Lib.hid (Sl.of_own HOR.out)
          go_wp2_with fail
          go_ret
          exact ⟨_, rfl, by rw [List.length_append]; exact HS.out, HBR.out⟩

set_option maxHeartbeats 1000000 in
theorem state_Union (va vb : Value) (l m : List St) (w : World) (ha : SlA w 9 va l.length (l.flatMap St.cells)) (hb : SlA w 9 vb m.length (m.flatMap St.cells)) (hl : l.length ≤ 400) (hm : m.length ≤ 400) :
    Calls Try.prog 23 #[va, vb] w fun e w' => ∃ v, e = .returned v ∧ Sl w' 9 v (ord (l ++ m)).length ((ord (l ++ m)).flatMap St.cells) ∧ Below w.heap.size w w' := by
  have hw : Below w.heap.size w (w.alloc (.cells #[va, vb] 22)) := (Below.refl _ _).alloc (Nat.le_refl _) _
  have C := Lib.hid (st_Concat w.heap.size va vb l m (w.alloc (.cells #[va, vb] 22)) (Blk.new w _ _) (ha.below hw) (hb.below hw) (by omega) (by omega))
  have SO := Lib.hid (fun v W h => syn_Sort v (l ++ m) W h (by rw [List.length_append]; omega))
  have HW := Lib.hid hw
  obtain ⟨ao, ac, hva⟩ := ha.form
  obtain ⟨bo, bc, hvb⟩ := hb.form
  subst hva hvb
  clear ha hb hw
  go_enter Try.func23, Try.ntmps23
  go_wp2_with fail
  refine C.out.mono ?_
  rintro e w1 ⟨v1, rfl, hs1, hb1⟩
  have HS1 := Lib.hid hs1
  have HB1 := Lib.hid (HW.out.trans (hb1.mono HW.out.size))
  clear hs1 hb1
  go_wp2_with fail
  refine (SO.out _ _ HS1.out.a).mono ?_
  rintro e w2 ⟨v2, rfl, hs2, hb2⟩
  have HS2 := Lib.hid hs2
  have HB2 := Lib.hid (HB1.out.trans (hb2.mono HB1.out.size))
  clear hs2 hb2
  go_wp2
  go_ret
  exact ⟨_, rfl, HS2.out, HB2.out⟩
end Go.Proofs.Ytmpanikeeeoikaa
