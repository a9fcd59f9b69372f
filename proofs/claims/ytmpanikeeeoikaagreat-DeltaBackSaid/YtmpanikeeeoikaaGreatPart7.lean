/- slices.Concat at two rows of statements, and state.Union. The reference's Print; the law's Light. Package state: Is; the laws' Light and lives. Rows of roles: whether one is among them. Package state: MayCome and MayGo; the law's lives; the reference's Of. Policies in memory, and whether they are light. One block of a call's own that stands whole. -/
import Derived.Test.YtmpanikeeeoikaaGreatPart6
import Derived.Test.YtmpanikeeeoikaaGreatPart3
import Derived.Deep.RegionHeld3
import Derived.Test.YtmpanikeeeoikaaGreatPart4
import Derived.Deep.AppendLies
namespace Go.Proofs.YtmpanikeeeoikaaGreat
open Go.RowKit Go.Shelf

/-- 'out = append(out, row...)', out a row of the call's own, the row whatever an argument may be. -/
theorem app_row {P : Program} {w : World} {ops : Array Oper} {rest : List Oper} {o : Oper} {a : Act} {Q : Exit → Act → World → Prop} {t e : TypeId} {z : Value} {size bytes : Nat}
    (ht : P.underlying t = some (.slice e)) (hinfo : (P.info? e).map (fun i => (i.zero, i.size, i.bytes)) = some (some z, size, bytes)) (hzs : z.cells.size = size) (hsz : 0 < size) (hby : bytes ≤ 1000)
    (hgd : o.guard = none) (s x : Operand) (ho : o.op = .call { callee := .builtin .append, args := #[s, x], argTypes := #[t, t] })
    (B : Nat) {v : Value} {n : Nat} {xs : List Value} (hs : a.eval s = v) (hown : w.ownsRow B e size v n xs)
    {va : Value} {m : Nat} {ys : List Value} (hx : a.eval x = va) (ha : SlA w size va m ys) (h1 : ∀ u ∈ ys, u.oneCell' = true)
    (hn : n + m ≤ 100000000000) (hB : B ≤ w.heap.size)
    (h : ∀ a' cap' w', w'.ownsRow B e size (.slice a' (n + m) cap') (n + m) (xs ++ ys) → w.grownBy w' v.ownBlock → wpList P ops Q rest (a.put o.dst (.slice a' (n + m) cap')) w') : wpList P ops Q (o :: rest) a w := by
  obtain ⟨i, hi, hz0, hz1, hz2⟩ := info_parts hinfo
  by_cases h0 : 0 < m
  · obtain ⟨b, off, c, rfl, hc, hm, hb, hcell⟩ := ha.pos h0
    have hl : ys.length = m * size := by
      rcases ha with ha | ⟨_, rfl, rfl⟩
      · exact ha.len
      · simp
    have hbb : (n + m) * bytes ≤ 140737488355328 := Nat.le_trans (Nat.mul_le_mul (Nat.le_refl _) hby) (by omega)
    refine wpList_append_own _ hgd s x t ho B e i z size bytes ht hi hz0 hz1 hz2 hzs hsz v n xs hs hown ⟨b, off, none⟩ m c ys hx hl ?_ h1 (by simp only [maxLen]; omega) hbb hB ?_
    · intro j u hu
      rw [addr_add]; exact hcell j u hu
    · intro v' w' h1 h2 _
      obtain ⟨a', cap', rfl⟩ := own_form h1
      exact h a' cap' w' h1 h2
  · obtain rfl : m = 0 := by omega
    have hy : ys = [] := by
      rcases ha with ha | ⟨_, _, rfl⟩
      · have := ha.len; exact List.eq_nil_of_length_eq_zero (by omega)
      · rfl
    subst hy
    obtain ⟨ax, cx, rfl⟩ := ha.form
    obtain ⟨ao, cap, rfl, hnc⟩ := own_form2 hown
    refine app_zero _ hgd s x t ho e i ht hi ao n cap hnc hs ax cx hx ?_
    exact h ao cap w (by rw [List.append_nil]; exact hown) ⟨rfl, rfl, rfl, Nat.le_refl _, fun _ _ _ => rfl⟩

theorem st_Grow (n : Nat) (w : World) (hn : n ≤ 2000) : Calls Tryz.prog 82 #[.slice none 0 0, .int .i64 n] w fun e w' =>
    ∃ a cap, e = .returned (.slice a 0 cap) ∧ w'.ownsRow w.heap.size 52 9 (.slice a 0 cap) 0 [] ∧ Below w.heap.size w w' := by
  by_cases h0 : 0 < n
  · obtain ⟨inf, hinf, hz0, hz1, hz2⟩ := info_parts st_info
    refine (Any8.slices_Grow_grow Tryz.growL inf _ hinf hz0 (by omega) none 0 0 n [] w (Nat.le_refl _) (by omega) (by rw [hz2]; omega) (by omega) (by simp) (fun _ => rfl) (fun a h => by cases h)).mono ?_
    rintro e w' ⟨rfl, rfl⟩
    have hge := grownCap_ge w (0 + n) 0 52
    have hle := grownCap_le_maxLen w (0 + n) 0 52 (by simp only [maxLen]; omega)
    refine ⟨_, _, rfl, World.ownsRow_made w.drew _ _ (Nat.le_refl _) hle ?_, (below_drew (Below.refl _ _)).alloc (Nat.le_refl _) _⟩
    rw [Nat.zero_add] at hge hle ⊢
    simp [Builtin.zeroCells, Value.cells]
    rw [show Tryz.growL_ren.t 25 = 52 from rfl]
    omega
  · obtain rfl : n = 0 := by omega
    refine (Any8.slices_Grow_room Tryz.growL none 0 0 0 w (Nat.le_refl _) (by omega) (by omega) (by omega)).mono ?_
    rintro e w' ⟨rfl, rfl⟩
    exact ⟨_, _, rfl, World.ownsRow_nil _ _ _ _, Below.refl _ _⟩

theorem flat_app (l m : List St) : (l ++ m).flatMap St.cells = l.flatMap St.cells ++ m.flatMap St.cells := by simp

set_option maxRecDepth 100000 in
set_option maxHeartbeats 4000000 in
/-- slices.Concat of two rows. -/
theorem st_Concat (g : Nat) (va vb : Value) (l m : List St) (w : World) (hg : Blk w g #[va, vb]) (ha : SlA w 9 va l.length (l.flatMap St.cells)) (hb : SlA w 9 vb m.length (m.flatMap St.cells)) (hl : l.length ≤ 1000) (hm : m.length ≤ 1000) :
    Calls Tryz.prog 59 #[.slice (some ⟨g, 0, none⟩) 2 2] w fun e w' => ∃ v, e = .returned v ∧ Sl w' 9 v (l ++ m).length ((l ++ m).flatMap St.cells) ∧ Below w.heap.size w w' := by
  have HA := Lib.hid ha
  have HB := Lib.hid hb
  have HG := Lib.hid hg
  obtain ⟨ao, ac, hva⟩ := ha.form
  obtain ⟨bo, bc, hvb⟩ := hb.form
  subst hva hvb
  have GR : Hid (∀ W, Calls Tryz.prog 82 #[.slice none 0 0, .int .i64 ((l.length : Int) + (m.length : Int))] W fun e w' =>
      ∃ a cap, e = .returned (.slice a 0 cap) ∧ w'.ownsRow W.heap.size 52 9 (.slice a 0 cap) 0 [] ∧ Below W.heap.size W w') := Lib.hid (fun W => by
    have h := st_Grow (l.length + m.length) W (by omega)
    rw [Int.natCast_add] at h
    exact h)
  have c0 : w.cell? ⟨g, 0, none⟩ = some (.slice ao l.length ac) := (hg.1 0).trans rfl
  have c1 : w.cell? ⟨g, 1, none⟩ = some (.slice bo m.length bc) := (hg.1 1).trans rfl
  have hgw : g < w.heap.size := hg.2.2
  clear ha hb hg
  go_enter Tryz.func59, Tryz.ntmps59
  go_wp2
  go_loop [3, 11] (fun n i => (n = .int .i64 0 ∧ i = .int .i64 0) ∨ (n = .int .i64 l.length ∧ i = .int .i64 1) ∨ (n = .int .i64 ((l.length : Int) + (m.length : Int)) ∧ i = .int .i64 2)) (fun _ i => 2 - (intOf i).toNat)
  case atStart => exact .inl ⟨rfl, rfl⟩
  case round =>
    obtain ⟨rfl, rfl⟩ | ⟨rfl, rfl⟩ | ⟨rfl, rfl⟩ := hrel
    · have d : decide ((l.length : Int) < 0) = false := by (rw [decide_eq_false_iff_not]; omega)
      have hw : IntKind.i64.wrap ((0 : Int) + (l.length : Int)) = (l.length : Int) := by rw [Int.zero_add]; exact Go.IntWalk.i64_in _ (by omega)
      go_wp2
      exact ⟨.inr (.inl ⟨rfl, rfl⟩), by simp [intOf]⟩
    · have d : decide ((l.length : Int) + (m.length : Int) < 0) = false := by (rw [decide_eq_false_iff_not]; omega)
      have hw : IntKind.i64.wrap ((l.length : Int) + (m.length : Int)) = (l.length : Int) + (m.length : Int) := Go.IntWalk.i64_in _ (by omega)
      go_wp2
      exact ⟨.inr (.inr ⟨rfl, rfl⟩), by simp [intOf]⟩
    · go_wp2_with fail
      refine (GR.out _).mono ?_
      rintro e w1 ⟨a1, cap1, rfl, hown, hb1⟩
      have HO := Lib.hid hown
      have HB1 := Lib.hid hb1
      clear hown hb1 c0 c1 hgw
      go_wp2_with fail
      go_loopw [6, 27] (fun vo i wr => Hid (Below w.heap.size w wr) ∧ ((i = .int .i64 0 ∧ Hid (wr.ownsRow w.heap.size 52 9 vo 0 [])) ∨ (i = .int .i64 1 ∧ Hid (wr.ownsRow w.heap.size 52 9 vo l.length (l.flatMap St.cells))) ∨ (i = .int .i64 2 ∧ Hid (wr.ownsRow w.heap.size 52 9 vo (l.length + m.length) ((l ++ m).flatMap St.cells))))) (fun _ i _ => 2 - (intOf i).toNat)
      case atStart => exact ⟨HB1, .inl ⟨rfl, HO⟩⟩
      case round =>
        obtain ⟨HBR, ⟨rfl, HOR⟩ | ⟨rfl, HOR⟩ | ⟨rfl, HOR⟩⟩ := hrel
        · have hbk := HG.out.below HBR.out
          have c0 : wr.cell? ⟨g, 0, none⟩ = some (.slice ao l.length ac) := (hbk.1 0).trans rfl
          have hgw : g < wr.heap.size := hbk.2.2
          obtain ⟨xo, xc, rfl⟩ := own_form HOR.out
          clear hbk
          go_wp2_with (at_builtin; refine halt_ ?_)
          unfold Halt_
          refine app_row Tryz.underlying22 st_info rfl (by decide) (by decide) rfl _ _ rfl w.heap.size rfl HOR.out rfl (HA.out.below HBR.out) (sts_one _) (by omega) HBR.out.size ?_
          intro a' cap' w3 hown' hgrow
          have HO3 := Lib.hid (show w3.ownsRow w.heap.size 52 9 (.slice a' l.length cap') l.length (l.flatMap St.cells) by simpa using hown')
          have HB3 := Lib.hid (below_own HBR.out HOR.out hgrow HBR.out.size (Nat.le_refl _))
          clear hown' hgrow
          go_wp2_with fail
          exact ⟨⟨HB3, .inr (.inl ⟨rfl, HO3⟩)⟩, by simp [intOf]⟩
        · have hbk := HG.out.below HBR.out
          have c1 : wr.cell? ⟨g, 1, none⟩ = some (.slice bo m.length bc) := (hbk.1 1).trans rfl
          have hgw : g < wr.heap.size := hbk.2.2
          obtain ⟨xo, xc, rfl⟩ := own_form HOR.out
          clear hbk
          go_wp2_with (at_builtin; refine halt_ ?_)
          unfold Halt_
          refine app_row Tryz.underlying22 st_info rfl (by decide) (by decide) rfl _ _ rfl w.heap.size rfl HOR.out rfl (HB.out.below HBR.out) (sts_one _) (by omega) HBR.out.size ?_
          intro a' cap' w3 hown' hgrow
          have HO3 := Lib.hid (show w3.ownsRow w.heap.size 52 9 (.slice a' (l.length + m.length) cap') (l.length + m.length) ((l ++ m).flatMap St.cells) by rw [flat_app]; exact hown')
          have HB3 := Lib.hid (below_own HBR.out HOR.out hgrow HBR.out.size (Nat.le_refl _))
          clear hown' hgrow
          go_wp2_with fail
          exact ⟨⟨HB3, .inr (.inr ⟨rfl, HO3⟩)⟩, by simp [intOf]⟩
        · obtain ⟨xo, xc, rfl⟩ := own_form HOR.out
          have HS := Lib.hid (Sl.of_own HOR.out)
          go_wp2_with fail
          go_ret
          exact ⟨_, rfl, by rw [List.length_append]; exact HS.out, HBR.out⟩

set_option maxHeartbeats 1000000 in
theorem state_Union (va vb : Value) (l m : List St) (w : World) (ha : SlA w 9 va l.length (l.flatMap St.cells)) (hb : SlA w 9 vb m.length (m.flatMap St.cells)) (hl : l.length ≤ 400) (hm : m.length ≤ 400) :
    Calls Tryz.prog 32 #[va, vb] w fun e w' => ∃ v, e = .returned v ∧ Sl w' 9 v (ord (l ++ m)).length ((ord (l ++ m)).flatMap St.cells) ∧ Below w.heap.size w w' := by
  have hw : Below w.heap.size w (w.alloc (.cells #[va, vb] 22)) := (Below.refl _ _).alloc (Nat.le_refl _) _
  have C := Lib.hid (st_Concat w.heap.size va vb l m (w.alloc (.cells #[va, vb] 22)) (Blk.new w _ _) (ha.below hw) (hb.below hw) (by omega) (by omega))
  have SO := Lib.hid (fun v W h => syn_Sort v (l ++ m) W h (by rw [List.length_append]; omega))
  have HW := Lib.hid hw
  obtain ⟨ao, ac, hva⟩ := ha.form
  obtain ⟨bo, bc, hvb⟩ := hb.form
  subst hva hvb
  clear ha hb hw
  go_enter Tryz.func32, Tryz.ntmps32
  go_wp2_with fail
  refine C.out.mono ?_
  rintro e w1 ⟨v1, rfl, hs1, hb1⟩
  have HS1 := Lib.hid hs1
  have HB1 := Lib.hid (HW.out.trans (hb1.mono HW.out.size))
  clear hs1 hb1
  go_wp2_with fail
  refine (SO.out _ _ HS1.out.a).mono ?_
  rintro e w2 ⟨v2, rfl, hs2, hb2⟩
  have HS2 := Lib.hid hs2
  have HB2 := Lib.hid (HB1.out.trans (hb2.mono HB1.out.size))
  clear hs2 hb2
  go_wp2
  go_ret
  exact ⟨_, rfl, HS2.out, HB2.out⟩
end Go.Proofs.YtmpanikeeeoikaaGreat
namespace Go.Proofs.YtmpanikeeeoikaaGreat
open Go.RowKit Go.Shelf

set_option maxRecDepth 100000 in
set_option maxHeartbeats 4000000 in
theorem ref3_Print (s : St) (w : World) (hs : s.le 4294967) :
    Calls Tryz.prog 39 #[sv s] w fun e w' => e = .returned (.string (printS s)) ∧ Below w.heap.size w w' := by
  have hle := Lib.hid hs
  clear hs
  cases hr : rightS s with
  | false =>
    have R := Lib.hid (printS_no s hr)
    have HR := Lib.hid hr
    obtain ⟨k, ⟨h1, h2⟩, who, ⟨a1, a2⟩, ⟨b1, b2⟩, via⟩ := s
    clear hr
    go_enter Tryz.func39, Tryz.ntmps39
    go_wp2_with (go_at_call 43; refine (ref3_Right ⟨k, ⟨h1, h2⟩, who, ⟨a1, a2⟩, ⟨b1, b2⟩, via⟩ _ hle.out).mono ?_; rw [HR.out]; rintro e w1 ⟨rfl, hb⟩)
    go_ret
    refine ⟨ret_s (by rw [R.out]), ((Below.refl _ _).alloc (Nat.le_refl _) _).trans (hb.mono (by simp))⟩
  | true =>
    obtain ⟨k, ⟨h1, h2⟩, who, ⟨a1, a2⟩, ⟨b1, b2⟩, via⟩ := s
    have hTh := roleT_le ⟨h1, h2⟩ hle.out.1
    have hTa := roleT_le ⟨a1, a2⟩ hle.out.2.2.1
    have hTb := roleT_le ⟨b1, b2⟩ hle.out.2.2.2.1
    have hwho : who.size ≤ 4294967 := hle.out.2.1
    have hvia : via.size ≤ 4294967 := hle.out.2.2.2.2
    by_cases k3 : k = 3
    · subst k3
      have R := Lib.hid (printS3 ⟨h1, h2⟩ who ⟨a1, a2⟩ ⟨b1, b2⟩ via hr)
      have HR := Lib.hid hr
      clear hr
      go_enter Tryz.func39, Tryz.ntmps39
      go_wp2_with (first | (go_at_call 43; refine (ref3_Right ⟨3, ⟨h1, h2⟩, who, ⟨a1, a2⟩, ⟨b1, b2⟩, via⟩ _ hle.out).mono ?_; rw [HR.out]; rintro e w1 ⟨rfl, hb⟩; obtain ⟨ca, fa, za⟩ := keep1 hb) | (go_at_call_of 40 (Value.agg #[.string h1, .string h2]); refine (ref3_Role ⟨h1, h2⟩ _ hle.out.1).mono ?_; rintro e w2 ⟨rfl, hb2⟩; obtain ⟨ca2, fa2, za2⟩ := Blk.below ⟨ca, fa, za⟩ hb2) | (go_at_call_of 40 (Value.agg #[.string a1, .string a2]); refine (ref3_Role ⟨a1, a2⟩ _ hle.out.2.2.1).mono ?_; rintro e w3 ⟨rfl, hb3⟩; obtain ⟨ca3, fa3, za3⟩ := Blk.below ⟨ca2, fa2, za2⟩ hb3))
      go_ret
      refine ⟨ret_s (by rw [R.out]; try simp only [app_assoc]), ?_⟩
      (repeat' (first | with_reducible exact Below.refl _ _ | with_reducible (refine Below.setCell ?_ ?_ _) | with_reducible (refine Below.alloc ?_ ?_ _) | with_reducible (refine below_drew ?_) | with_reducible (refine below_drewN ?_ _) | with_reducible (refine Below.trans ?_ (Below.mono (by assumption) ?_)) | omega | (simp; done) | (simp; omega)))
    by_cases k4 : k = 4
    · subst k4
      have R := Lib.hid (printS4 ⟨h1, h2⟩ who ⟨a1, a2⟩ ⟨b1, b2⟩ via hr)
      have HR := Lib.hid hr
      clear hr
      have hd : ¬ (Value.agg #[.string a1, .string a2] = Value.agg #[.string b1, .string b2]) ∨ (a1 = b1 ∧ a2 = b2) := by
        by_cases h : a1 = b1 ∧ a2 = b2
        · exact .inr h
        · exact .inl (fun e => h (by simpa using e))
      go_enter Tryz.func39, Tryz.ntmps39
      go_wp2_with (first | (go_at_call 43; refine (ref3_Right ⟨4, ⟨h1, h2⟩, who, ⟨a1, a2⟩, ⟨b1, b2⟩, via⟩ _ hle.out).mono ?_; rw [HR.out]; rintro e w1 ⟨rfl, hb⟩; obtain ⟨ca, fa, za⟩ := keep1 hb) | (go_at_call_of 40 (Value.agg #[.string h1, .string h2]); refine (ref3_Role ⟨h1, h2⟩ _ hle.out.1).mono ?_; rintro e w2 ⟨rfl, hb2⟩; obtain ⟨ca2, fa2, za2⟩ := Blk.below ⟨ca, fa, za⟩ hb2) | (go_at_call_of 40 (Value.agg #[.string a1, .string a2]); refine (ref3_Role ⟨a1, a2⟩ _ hle.out.2.2.1).mono ?_; rintro e w3 ⟨rfl, hb3⟩; obtain ⟨ca3, fa3, za3⟩ := Blk.below ⟨ca2, fa2, za2⟩ hb3) | (go_at_call_of 40 (Value.agg #[.string b1, .string b2]); refine (ref3_Role ⟨b1, b2⟩ _ hle.out.2.2.2.1).mono ?_; rintro e w4 ⟨rfl, hb4⟩; obtain ⟨ca4, fa4, za4⟩ := Blk.below ⟨ca3, fa3, za3⟩ hb4))
      go_ret
      refine ⟨ret_s (by rw [R.out]; try simp only [app_assoc]), ?_⟩
      (repeat' (first | with_reducible exact Below.refl _ _ | with_reducible (refine Below.setCell ?_ ?_ _) | with_reducible (refine Below.alloc ?_ ?_ _) | with_reducible (refine below_drew ?_) | with_reducible (refine below_drewN ?_ _) | with_reducible (refine Below.trans ?_ (Below.mono (by assumption) ?_)) | omega | (simp; done) | (simp; omega)))
    by_cases k2 : k = 2
    · subst k2
      have R := Lib.hid (printS2 ⟨h1, h2⟩ who ⟨a1, a2⟩ ⟨b1, b2⟩ via hr)
      have HR := Lib.hid hr
      clear hr
      go_enter Tryz.func39, Tryz.ntmps39
      go_wp2_with (first | (go_at_call 43; refine (ref3_Right ⟨2, ⟨h1, h2⟩, who, ⟨a1, a2⟩, ⟨b1, b2⟩, via⟩ _ hle.out).mono ?_; rw [HR.out]; rintro e w1 ⟨rfl, hb⟩; obtain ⟨ca, fa, za⟩ := keep1 hb) | (go_at_call_of 40 (Value.agg #[.string h1, .string h2]); refine (ref3_Role ⟨h1, h2⟩ _ hle.out.1).mono ?_; rintro e w2 ⟨rfl, hb2⟩; obtain ⟨ca2, fa2, za2⟩ := Blk.below ⟨ca, fa, za⟩ hb2) | (go_at_call_of 40 (Value.agg #[.string a1, .string a2]); refine (ref3_Role ⟨a1, a2⟩ _ hle.out.2.2.1).mono ?_; rintro e w3 ⟨rfl, hb3⟩; obtain ⟨ca3, fa3, za3⟩ := Blk.below ⟨ca2, fa2, za2⟩ hb3))
      go_ret
      refine ⟨ret_s (by rw [R.out]; try simp only [app_assoc]), ?_⟩
      (repeat' (first | with_reducible exact Below.refl _ _ | with_reducible (refine Below.setCell ?_ ?_ _) | with_reducible (refine Below.alloc ?_ ?_ _) | with_reducible (refine below_drew ?_) | with_reducible (refine below_drewN ?_ _) | with_reducible (refine Below.trans ?_ (Below.mono (by assumption) ?_)) | omega | (simp; done) | (simp; omega)))
    by_cases k1 : k = 1
    · subst k1
      have R := Lib.hid (printS1 ⟨h1, h2⟩ who ⟨a1, a2⟩ ⟨b1, b2⟩ via hr)
      have HR := Lib.hid hr
      clear hr
      go_enter Tryz.func39, Tryz.ntmps39
      go_wp2_with (first | (go_at_call 43; refine (ref3_Right ⟨1, ⟨h1, h2⟩, who, ⟨a1, a2⟩, ⟨b1, b2⟩, via⟩ _ hle.out).mono ?_; rw [HR.out]; rintro e w1 ⟨rfl, hb⟩; obtain ⟨ca, fa, za⟩ := keep1 hb) | (go_at_call_of 40 (Value.agg #[.string h1, .string h2]); refine (ref3_Role ⟨h1, h2⟩ _ hle.out.1).mono ?_; rintro e w2 ⟨rfl, hb2⟩; obtain ⟨ca2, fa2, za2⟩ := Blk.below ⟨ca, fa, za⟩ hb2))
      go_ret
      refine ⟨ret_s (by rw [R.out]), ?_⟩
      (repeat' (first | with_reducible exact Below.refl _ _ | with_reducible (refine Below.setCell ?_ ?_ _) | with_reducible (refine Below.alloc ?_ ?_ _) | with_reducible (refine below_drew ?_) | with_reducible (refine below_drewN ?_ _) | with_reducible (refine Below.trans ?_ (Below.mono (by assumption) ?_)) | omega | (simp; done) | (simp; omega)))
    rw [rightS0 k _ _ _ _ _ k1 k2 k3 k4] at hr
    cases hr

def light8 (s : St) : List ByteArray := [s.who, s.via, s.h.o, s.h.n, s.a.o, s.a.n, s.b.o, s.b.n]
theorem light8_le {s : St} {m : Nat} : (∀ x ∈ light8 s, x.size ≤ m) ↔ s.le m := by
  simp only [light8, St.le, Rl.le, List.forall_mem_cons]
  constructor
  · rintro ⟨a, b, c, d, e, f, g, h, _⟩; exact ⟨⟨c, d⟩, a, ⟨e, f⟩, ⟨g, h⟩, b⟩
  · rintro ⟨⟨c, d⟩, a, ⟨e, f⟩, ⟨g, h⟩, b⟩; exact ⟨a, b, c, d, e, f, g, h, by simp⟩
theorem St.le.mono {s : St} {m n : Nat} (h : s.le m) (hmn : m ≤ n) : s.le n := light8_le.1 (fun x hx => Nat.le_trans (light8_le.2 h x hx) hmn)
theorem Rl.le.mono {s : Rl} {m n : Nat} (h : s.le m) (hmn : m ≤ n) : s.le n := ⟨Nat.le_trans h.1 hmn, Nat.le_trans h.2 hmn⟩
set_option maxRecDepth 100000 in
set_option maxHeartbeats 4000000 in
theorem law3_Light (s : St) (w : World) (hs : s.le 9223372036854775807) :
    Calls Tryz.prog 23 #[sv s] w fun e w' => ∃ b, e = .returned (.bool b) ∧ (b = true → s.le 40) ∧ Below w.heap.size w w' := by
  have HL := Lib.hid (light8_le.2 hs)
  have HE := Lib.hid (fun h => (light8_le (s := s) (m := 40)).1 h)
  have h8 : (light8 s).length = 8 := rfl
  have HS : ∀ W : World, (∀ o, W.cell? ⟨w.heap.size + 1, o, none⟩ = ((light8 s).map Value.string).toArray[o]?) → ∀ k (hk : k < (light8 s).length), W.cell? ⟨w.heap.size + 1, k, none⟩ = some (.string (light8 s)[k]) := by
    intro W h k hk; rw [h]; simp [hk]
  have HC := Lib.hid HS
  have H0 := Lib.hid (show ((light8 s).map Value.string).toArray = #[.string s.who, .string s.via, .string s.h.o, .string s.h.n, .string s.a.o, .string s.a.n, .string s.b.o, .string s.b.n] from rfl)
  generalize light8 s = L at *
  obtain ⟨k, ⟨h1, h2⟩, who, ⟨a1, a2⟩, ⟨b1, b2⟩, via⟩ := s
  clear hs HS
  go_enter Tryz.func23, Tryz.ntmps23
  go_wp2
  go_loopw [29] (fun i wr => ∃ k : Nat, k ≤ 8 ∧ i = .int .i64 k ∧ (∀ j (h : j < L.length), j < k → L[j].size ≤ 40) ∧ Below w.heap.size w wr ∧ (∀ o, wr.cell? ⟨w.heap.size + 1, o, none⟩ = (L.map Value.string).toArray[o]?)) (fun i _ => 8 - (intOf i).toNat)
  case atStart =>
    refine ⟨0, by omega, rfl, fun j h hj => absurd hj (by omega), ((Below.refl _ _).alloc (Nat.le_refl _) _).alloc (by simp) _, fun o => ?_⟩
    rw [H0.out, World.cell?_alloc_at _ _ _ _ (by simp)]
  case round =>
    obtain ⟨k, hk, rfl, hpre, hbw, hcell⟩ := hrel
    have HCE := Lib.hid hcell
    have HPRE := Lib.hid hpre
    by_cases hlt : k < 8
    · have p0 := HC.out _ hcell k (by omega)
      have hz := HL.out L[k] (List.getElem_mem (by omega))
      clear hcell hpre
      by_cases h40 : L[k].size ≤ 40
      · have d1 : decide ((40 : Int) < (L[k].size : Int)) = false := by simp; omega
        go_wp2
        refine ⟨⟨k + 1, by omega, by go_num, fun j h hj => ?_, hbw, HCE.out⟩, by simp [intOf]; omega⟩
        by_cases hjk : j < k
        · exact HPRE.out j h hjk
        · obtain rfl : j = k := by omega
          exact h40
      · have d1 : decide ((40 : Int) < (L[k].size : Int)) = true := by simp; omega
        go_wp2
        go_ret
        exact ⟨false, rfl, fun h => (by cases h), hbw⟩
    · clear hcell hpre
      go_wp2
      go_ret
      refine ⟨true, rfl, fun _ => HE.out fun x hx => ?_, hbw⟩
      obtain ⟨j, hj, rfl⟩ := List.getElem_of_mem hx
      exact HPRE.out j hj (by omega)
end Go.Proofs.YtmpanikeeeoikaaGreat
namespace Go.Proofs.YtmpanikeeeoikaaGreat
open Go.RowKit Go.Shelf

/-- Rows of statements that may be, in strict order. -/
def isS : List St → Bool
  | [] => true
  | [x] => rightS x
  | x :: y :: r => rightS x && decide (cmpSt x y < 0) && isS (y :: r)
theorem isS_iff : ∀ (l : List St), isS l = true ↔ (∀ x ∈ l, rightS x = true) ∧ Asc l
  | [] => by simp [isS, Asc]
  | [x] => by simp [isS, Asc]
  | x :: y :: r => by
    have ih := isS_iff (y :: r)
    simp only [isS, Bool.and_eq_true, decide_eq_true_iff, ih]
    constructor
    · rintro ⟨⟨h1, h2⟩, h3, h4⟩
      refine ⟨fun z hz => ?_, List.pairwise_cons.2 ⟨fun z hz => ?_, h4⟩⟩
      · rcases List.mem_cons.1 hz with rfl | hz
        · exact h1
        · exact h3 z hz
      · rcases List.mem_cons.1 hz with rfl | hz
        · exact h2
        · exact lt_trans' h2 ((List.pairwise_cons.1 h4).1 z hz)
    · rintro ⟨h1, h2⟩
      have h3 := List.pairwise_cons.1 h2
      exact ⟨⟨h1 x (by simp), h3.1 y (by simp)⟩, fun z hz => h1 z (by simp [List.mem_cons.1 hz]), h3.2⟩
/-- The first k of a row may be, and each comes ahead of its next one. -/
theorem isS_no {l : List St} {k : Nat} (hk : k < l.length) (h : rightS l[k] = false) : isS l = false := by
  cases e : isS l with
  | false => rfl
  | true => have := ((isS_iff l).1 e).1 l[k] (List.getElem_mem hk); rw [h] at this; cases this
theorem isS_gap {l : List St} {k : Nat} (hk : k + 1 < l.length) (h : ¬ cmpSt l[k] l[k + 1] < 0) : isS l = false := by
  cases e : isS l with
  | false => rfl
  | true => exact absurd (List.pairwise_iff_getElem.1 ((isS_iff l).1 e).2 k (k + 1) (by omega) hk (by omega)) h
theorem isS_end {l : List St} (h : ∀ k (hk : k < l.length), rightS l[k] = true) (h' : ∀ k (hk : k + 1 < l.length), cmpSt l[k] l[k + 1] < 0) : isS l = true := by
  match l, h, h' with
  | [], _, _ => rfl
  | [x], h, _ => exact h 0 (by simp)
  | x :: y :: r, h, h' =>
    have := isS_end (l := y :: r) (fun k hk => h (k + 1) (by simpa using hk)) (fun k hk => h' (k + 1) (by simpa using hk))
    simp only [isS, this, Bool.and_true, Bool.and_eq_true, decide_eq_true_iff]
    exact ⟨h 0 (by simp), h' 0 (by simp)⟩

def allLe (l : List St) (m : Nat) : Prop := ∀ x ∈ l, x.le m
set_option maxRecDepth 100000 in
set_option maxHeartbeats 4000000 in
theorem law10_Light (va : Value) (l : List St) (w : World) (ha : SlA w 9 va l.length (l.flatMap St.cells)) (hl : allLe l 9223372036854775807) :
    Calls Tryz.prog 21 #[va] w fun e w' => ∃ b, e = .returned (.bool b) ∧ (b = true → l.length ≤ 40 ∧ allLe l 40) ∧ Below w.heap.size w w' := by
  have HA := Lib.hid ha
  have hmax := ha.max
  have HL := Lib.hid (fun k (hk : k < l.length) W => law3_Light l[k] W (hl _ (List.getElem_mem hk)))
  obtain ⟨ao, cap, hva⟩ := ha.form
  subst hva
  clear ha hl
  go_enter Tryz.func21, Tryz.ntmps21
  by_cases h40 : 40 < l.length
  · have d : decide ((40 : Int) < (l.length : Int)) = true := by (rw [decide_eq_true_iff]; omega)
    go_wp2
    go_ret
    exact ⟨false, rfl, (fun h => by cases h), Below.refl _ _⟩
  have d : decide ((40 : Int) < (l.length : Int)) = false := by (rw [decide_eq_false_iff_not]; omega)
  go_wp2
  go_loopw [10] (fun i wr => ∃ k : Nat, k ≤ l.length ∧ i = .int .i64 k ∧ Hid (Below w.heap.size w wr) ∧ Hid (∀ j (hj : j < l.length), j < k → l[j].le 40)) (fun i _ => l.length - (intOf i).toNat)
  case atStart => exact ⟨0, by omega, rfl, Lib.hid (Below.refl _ _), Lib.hid (fun _ _ h => absurd h (by omega))⟩
  case round =>
    obtain ⟨k, hk, rfl, HB, HJ⟩ := hrel
    by_cases hlt : k < l.length
    · obtain ⟨b1, o1, c1, he1, hc1, hm1, hb1, hx1⟩ := HA.out.pos (by omega)
      simp only [Value.slice.injEq, true_and] at he1
      obtain ⟨rfl, rfl⟩ := he1
      obtain ⟨p0, p1, p2, p3, p4, p5, p6, p7, p8⟩ := st_cell (w := wr) (fun j u hu => (HB.out.cell (p := ⟨b1, o1 + j, none⟩) hb1).trans (hx1 j u hu)) k hlt
      have hbr : b1 < wr.heap.size := Nat.lt_of_lt_of_le hb1 HB.out.size
      have HLk := Lib.hid (fun W => HL.out k hlt W)
      clear hx1
      go_wp2_with fail
      refine (HLk.out _).mono ?_
      rintro e w2 ⟨b, rfl, hle, hb2⟩
      have HLE := Lib.hid hle
      have HB2 := Lib.hid (HB.out.trans (((Below.refl _ wr).alloc (Nat.le_refl _) _).trans (hb2.mono (by simp)) |>.mono HB.out.size))
      clear hle hb2
      cases b with
      | false =>
        go_wp2
        go_ret
        exact ⟨false, rfl, (fun h => by cases h), HB2.out⟩
      | true =>
        have HJ2 : Hid (∀ j (hj : j < l.length), j < k + 1 → l[j].le 40) := Lib.hid (fun j hj hjk => by
          by_cases h : j < k
          · exact HJ.out j hj h
          · obtain rfl : j = k := by omega
            exact HLE.out rfl)
        go_wp2
        exact ⟨⟨k + 1, by omega, by go_num, HB2, HJ2⟩, by simp [intOf]; omega⟩
    · have HJ3 := Lib.hid (show allLe l 40 from fun x hx => by
        obtain ⟨j, hj, rfl⟩ := List.getElem_of_mem hx
        exact HJ.out j hj (by omega))
      go_wp2
      go_ret
      exact ⟨true, rfl, fun _ => ⟨by omega, HJ3.out⟩, HB.out⟩

/-- A statement that lay in a world lies in all that follow. -/
theorem nine_near {w : World} {b o : Nat} {s : St} (h : Nine w b o s) (hb : b < w.heap.size) (p : Nr w) : Nine p.x b o s := h.below hb p.h
end Go.Proofs.YtmpanikeeeoikaaGreat
namespace Go.Proofs.YtmpanikeeeoikaaGreat
open Go.RowKit Go.Shelf

def hasR (l : List Rl) (s : Rl) : Bool := l.any (fun x => eqRl x s)
theorem hasR_yes {l : List Rl} {s : Rl} {k : Nat} (hl : k < l.length) (e : l[k] = s) : hasR l s = true := by
  unfold hasR; rw [List.any_eq_true]; exact ⟨l[k], List.getElem_mem hl, by simp [eqRl, e]⟩
theorem hasR_end {l : List Rl} {s : Rl} {k : Nat} (hk : ¬ k < l.length) (h : ∀ j (hj : j < l.length), j < k → ¬ l[j] = s) : hasR l s = false := by
  unfold hasR; rw [List.any_eq_false]
  intro x hx
  obtain ⟨j, hj, rfl⟩ := List.getElem_of_mem hx
  simp [eqRl, h j hj (by omega)]
theorem eqRl_comm (s t : Rl) : eqRl s t = eqRl t s := by
  unfold eqRl; rw [Bool.eq_iff_iff, decide_eq_true_iff, decide_eq_true_iff]; exact eq_comm
set_option maxRecDepth 100000 in
set_option maxHeartbeats 2000000 in
theorem rl_Index (va : Value) (l : List Rl) (s : Rl) (w : World) (ha : SlA w 2 va l.length (l.flatMap Rl.cells)) :
    Calls Tryz.prog 94 #[va, rv s] w fun e w' => (∃ i : Int, e = .returned (.int .i64 i) ∧ decide (0 ≤ i) = hasR l s) ∧ Below w.heap.size w w' := by
  have hmax := ha.max
  have hEq := role_eql
  by_cases h0 : 0 < l.length
  · obtain ⟨b1, o1, c1, rfl, hc1, hm1, hb1, hx1⟩ := ha.pos h0
    have HX1 := Lib.hid hx1
    have HS := Lib.hid (fun k (hl : k < l.length) (e : l[k] = s) => hasR_yes hl e)
    have HE := Lib.hid (fun k (hk : ¬ k < l.length) h => hasR_end (l := l) (s := s) (k := k) hk h)
    have HD := Lib.hid (fun k (hl : k < l.length) => show (eqRl s l[k] = true ↔ l[k] = s) from by rw [eqRl_comm]; exact decide_eq_true_iff)
    generalize hasR l s = res at HS HE ⊢
    clear ha hx1
    obtain ⟨h1, h2⟩ := s
    go_enter Tryz.func94, Tryz.ntmps94
    go_wp2
    go_loopw [8] (fun i wr => ∃ k n : Nat, k ≤ l.length ∧ i = .int .i64 k ∧ wr = (w.alloc (.cells #[.string h1, .string h2] 50)).drewN n ∧ Hid (∀ j (hj : j < l.length), j < k → ¬ l[j] = ⟨h1, h2⟩)) (fun i _ => l.length - (intOf i).toNat)
    case atStart => exact ⟨0, 0, by omega, rfl, rfl, Lib.hid (fun _ _ h => absurd h (by omega))⟩
    case round =>
      obtain ⟨k, n, hk, rfl, rfl, HT⟩ := hrel
      by_cases hlt : k < l.length
      · obtain ⟨p0, p1⟩ := rl_cell (w := w) HX1.out k hlt
        have hD := HD.out k hlt
        cases he : eqRl ⟨h1, h2⟩ l[k] with
        | true =>
          have R := Lib.hid (HS.out k hlt (hD.1 he))
          change eqRl _ ⟨l[k].o, l[k].n⟩ = true at he
          clear hD
          go_wp2_with fail
          go_big_quiet (fail)
          go_wp2
          go_ret
          exact ⟨⟨(k : Int), rfl, by rw [R.out, decide_eq_true_iff]; omega⟩, below_drewN (below_drewN ((Below.refl _ _).alloc (Nat.le_refl _) _) _) _⟩
        | false =>
          have HN : Hid (∀ j (hj : j < l.length), j < k + 1 → ¬ l[j] = ⟨h1, h2⟩) := Lib.hid (fun j hj hjk => by
            by_cases hjk' : j < k
            · exact HT.out j hj hjk'
            · obtain rfl : j = k := by omega
              intro e; rw [hD.2 e] at he; cases he)
          change eqRl _ ⟨l[k].o, l[k].n⟩ = false at he
          clear hD
          go_wp2_with fail
          go_big_quiet (fail)
          go_wp2
          exact ⟨⟨k + 1, n + nq, by omega, by go_num, rfl, HN⟩, by simp [intOf]; omega⟩
      · have R := Lib.hid (HE.out k hlt HT.out)
        go_wp2
        go_ret
        exact ⟨⟨-1, rfl, by rw [R.out]; rfl⟩, below_drewN ((Below.refl _ _).alloc (Nat.le_refl _) _) _⟩
  · obtain ⟨a1, c1, rfl⟩ := ha.form
    obtain rfl : l = [] := List.eq_nil_of_length_eq_zero (by omega)
    clear ha h0 hmax
    obtain ⟨h1, h2⟩ := s
    go_enter Tryz.func94, Tryz.ntmps94
    go_wp2
    go_loopw [8] (fun i wr => i = .int .i64 0 ∧ Below w.heap.size w wr) (fun _ _ => 0)
    case atStart => exact ⟨rfl, (Below.refl _ _).alloc (Nat.le_refl _) _⟩
    case round =>
      obtain ⟨rfl, hbw⟩ := hrel
      go_wp2
      go_ret
      exact ⟨⟨-1, rfl, rfl⟩, hbw⟩

set_option maxHeartbeats 1000000 in
theorem rl_Contains (va : Value) (l : List Rl) (s : Rl) (w : World) (ha : SlA w 2 va l.length (l.flatMap Rl.cells)) :
    Calls Tryz.prog 76 #[va, rv s] w fun e w' => e = .returned (.bool (hasR l s)) ∧ Below w.heap.size w w' := by
  have I := Lib.hid (fun W h => rl_Index va l s W h)
  have HA := Lib.hid ha
  generalize hasR l s = res at I ⊢
  obtain ⟨h1, h2⟩ := s
  clear ha
  go_enter Tryz.func76, Tryz.ntmps76
  go_wp2_with fail
  refine (I.out _ (HA.out.below ((Below.refl _ _).alloc (Nat.le_refl _) _))).mono ?_
  rintro e w1 ⟨⟨i, rfl, hi⟩, hb⟩
  have HI := Lib.hid hi
  have HB := Lib.hid (((Below.refl _ w).alloc (Nat.le_refl _) _).trans (hb.mono (by simp)) : Below w.heap.size w w1)
  clear hi hb
  go_wp2
  go_ret
  exact ⟨ret_b HI.out, HB.out⟩

set_option maxRecDepth 100000 in
set_option maxHeartbeats 2000000 in
theorem ref5_Has (va : Value) (l : List Rl) (s : Rl) (w : World) (ha : SlA w 2 va l.length (l.flatMap Rl.cells)) :
    Calls Tryz.prog 48 #[va, rv s] w fun e w' => e = .returned (.bool (hasR l s)) ∧ Below w.heap.size w w' := by
  have hmax := ha.max
  have hEq := role_eql
  by_cases h0 : 0 < l.length
  · obtain ⟨b1, o1, c1, rfl, hc1, hm1, hb1, hx1⟩ := ha.pos h0
    have HX1 := Lib.hid hx1
    have HS := Lib.hid (fun k (hl : k < l.length) (e : l[k] = s) => hasR_yes hl e)
    have HE := Lib.hid (fun k (hk : ¬ k < l.length) h => hasR_end (l := l) (s := s) (k := k) hk h)
    have HD := Lib.hid (fun k (hl : k < l.length) => show (eqRl l[k] s = true ↔ l[k] = s) from decide_eq_true_iff)
    generalize hasR l s = res at HS HE ⊢
    clear ha hx1
    obtain ⟨h1, h2⟩ := s
    go_enter Tryz.func48, Tryz.ntmps48
    go_wp2
    go_loopw [9] (fun i wr => ∃ k : Nat, k ≤ l.length ∧ i = .int .i64 k ∧ Below w.heap.size w wr ∧ Blk wr w.heap.size #[.string h1, .string h2] ∧ Hid (∀ j (hj : j < l.length), j < k → ¬ l[j] = ⟨h1, h2⟩)) (fun i _ => l.length - (intOf i).toNat)
    case atStart => exact ⟨0, by omega, rfl, (Below.refl _ _).alloc (Nat.le_refl _) _, Blk.new _ _ _, Lib.hid (fun _ _ h => absurd h (by omega))⟩
    case round =>
      obtain ⟨k, hk, rfl, hbw, hblk, HT⟩ := hrel
      have HBW := Lib.hid hbw
      have HBK := Lib.hid hblk
      have hz := hbw.size
      obtain ⟨cs, fs, zs⟩ := hblk
      by_cases hlt : k < l.length
      · obtain ⟨p0, p1⟩ := rl_cell (w := wr) (fun j u hu => (hbw.cell (p := ⟨b1, o1 + j, none⟩) hb1).trans (HX1.out j u hu)) k hlt
        have hb1' : b1 < wr.heap.size := Nat.lt_of_lt_of_le hb1 hz
        have hD := HD.out k hlt
        clear hbw
        cases he : eqRl l[k] ⟨h1, h2⟩ with
        | true =>
          have R := Lib.hid (HS.out k hlt (hD.1 he))
          change eqRl ⟨l[k].o, l[k].n⟩ _ = true at he
          clear hD
          go_wp2
          go_ret
          exact ⟨ret_b R.out.symm, HBW.out.alloc HBW.out.size _⟩
        | false =>
          have HN : Hid (∀ j (hj : j < l.length), j < k + 1 → ¬ l[j] = ⟨h1, h2⟩) := Lib.hid (fun j hj hjk => by
            by_cases hjk' : j < k
            · exact HT.out j hj hjk'
            · obtain rfl : j = k := by omega
              intro e; rw [hD.2 e] at he; cases he)
          change eqRl ⟨l[k].o, l[k].n⟩ _ = false at he
          clear hD
          go_wp2
          exact ⟨⟨k + 1, by omega, by go_num, HBW.out.alloc HBW.out.size _, HBK.out.alloc _, HN⟩, by simp [intOf]; omega⟩
      · have R := Lib.hid (HE.out k hlt HT.out)
        clear hbw
        go_wp2
        go_ret
        exact ⟨ret_b R.out.symm, HBW.out⟩
  · obtain ⟨a1, c1, rfl⟩ := ha.form
    obtain rfl : l = [] := List.eq_nil_of_length_eq_zero (by omega)
    clear ha h0 hmax
    obtain ⟨h1, h2⟩ := s
    go_enter Tryz.func48, Tryz.ntmps48
    go_wp2
    go_loopw [9] (fun i wr => i = .int .i64 0 ∧ Below w.heap.size w wr) (fun _ _ => 0)
    case atStart => exact ⟨rfl, (Below.refl _ _).alloc (Nat.le_refl _) _⟩
    case round =>
      obtain ⟨rfl, hbw⟩ := hrel
      go_wp2
      go_ret
      exact ⟨rfl, hbw⟩

set_option maxHeartbeats 1000000 in
theorem policy_Has (va : Value) (l : List Rl) (s : Rl) (w : World) (ha : SlA w 2 va l.length (l.flatMap Rl.cells)) :
    Calls Tryz.prog 56 #[va, rv s] w fun e w' => e = .returned (.bool (hasR l s)) ∧ Below w.heap.size w w' := by
  have I := Lib.hid (fun W h => rl_Contains va l s W h)
  have HA := Lib.hid ha
  generalize hasR l s = res at I ⊢
  obtain ⟨h1, h2⟩ := s
  clear ha
  go_enter Tryz.func56, Tryz.ntmps56
  go_wp2_with fail
  refine (I.out _ (HA.out.below ((Below.refl _ _).alloc (Nat.le_refl _) _))).mono ?_
  rintro e w1 ⟨rfl, hb⟩
  have HB := Lib.hid (((Below.refl _ w).alloc (Nat.le_refl _) _).trans (hb.mono (by simp)) : Below w.heap.size w w1)
  clear hb
  go_wp2
  go_ret
  exact ⟨rfl, HB.out⟩
end Go.Proofs.YtmpanikeeeoikaaGreat
namespace Go.Proofs.YtmpanikeeeoikaaGreat
open Go.RowKit Go.Shelf

/-- A policy's value: statements, roles that may not grow, roles that may not shrink, queries. -/
abbrev pv (a b c d : Value) : Value := .agg #[a, b, c, d]

def oneS : St := ⟨1, ⟨⟨#[65]⟩, ⟨#[114]⟩⟩, ⟨#[66]⟩, noR, noR, emp⟩
theorem one_right : rightS oneS = true := by kernel_rfl
theorem one_le : oneS.le 4294967 := by simp only [oneS, St.le, Rl.le, noR, ByteArray.size]; decide
theorem one_in : hasR [oneS.h] oneS.h = true := by kernel_rfl
theorem one_is : isS [oneS] = true := by kernel_rfl
abbrev nilV : Value := .slice none 0 0
theorem one_row (w : World) : Sl (w.alloc (.cells #[.string ⟨#[65]⟩, .string ⟨#[114]⟩] 50)) 2 (.slice (some ⟨w.heap.size, 0, none⟩) 1 1) [oneS.h].length ([oneS.h].flatMap Rl.cells) :=
  Sl.new w [.string ⟨#[65]⟩, .string ⟨#[114]⟩] 50 2 1 w.heap.size rfl rfl (by simp [maxLen])
theorem one_row2 (w : World) : Sl (w.alloc (.cells #[.int .i64 1, .string ⟨#[65]⟩, .string ⟨#[114]⟩, .string ⟨#[66]⟩, .string ⟨#[]⟩, .string ⟨#[]⟩, .string ⟨#[]⟩, .string ⟨#[]⟩, .string ⟨#[]⟩] 52)) 9 (.slice (some ⟨w.heap.size, 0, none⟩) 1 1) [oneS].length ([oneS].flatMap St.cells) :=
  Sl.new w [.int .i64 1, .string ⟨#[65]⟩, .string ⟨#[114]⟩, .string ⟨#[66]⟩, .string ⟨#[]⟩, .string ⟨#[]⟩, .string ⟨#[]⟩, .string ⟨#[]⟩, .string ⟨#[]⟩] 52 9 1 w.heap.size rfl rfl (by simp [maxLen])
end Go.Proofs.YtmpanikeeeoikaaGreat
namespace Go.Proofs.YtmpanikeeeoikaaGreat
open Go.RowKit Go.Shelf

def maxN : Nat := 9223372036854775807
def strs (l : List ByteArray) : List Value := l.map .string
theorem strs_get {l : List ByteArray} {k : Nat} (hk : k < l.length) : (strs l)[k]? = some (.string l[k]) := by simp [strs, hk]

/-- Some bool comes back. -/
def AnyB (e : Ending) : Prop := ∃ b, e = .returned (.bool b)
/-- Some bool comes back; if it is true there are at most 40 texts. -/
def LightS (l : List ByteArray) (e : Ending) : Prop := ∃ b, e = .returned (.bool b) ∧ (b = true → l.length ≤ 40)
set_option maxHeartbeats 1000000 in
theorem law1_Light (va : Value) (l : List ByteArray) (w : World) (ha : SlA w 1 va l.length (strs l)) (hl : ∀ s ∈ l, s.size ≤ 9223372036854775807) :
    Calls Tryz.prog 49 #[va] w fun e w' => LightS l e ∧ w' = w := by
  have HA := Lib.hid ha
  have HL := Lib.hid hl
  have hmax := ha.max
  obtain ⟨ao, cap, hva⟩ := ha.form
  subst hva
  clear ha hl
  go_enter Tryz.func49, Tryz.ntmps49
  by_cases h40 : 40 < l.length
  · have d : decide ((40 : Int) < (l.length : Int)) = true := by (rw [decide_eq_true_iff]; omega)
    go_wp2
    go_ret
    exact ⟨⟨false, rfl, fun h => by cases h⟩, rfl⟩
  have d : decide ((40 : Int) < (l.length : Int)) = false := by (rw [decide_eq_false_iff_not]; omega)
  go_wp2
  go_loop [10] (fun i => ∃ k : Nat, k ≤ l.length ∧ i = .int .i64 k) (fun i => l.length - (intOf i).toNat)
  case atStart => exact ⟨0, by omega, rfl⟩
  case round =>
    obtain ⟨k, hk, rfl⟩ := hrel
    by_cases hlt : k < l.length
    · obtain ⟨b1, o1, c1, he1, hc1, hm1, hb1, hx1⟩ := HA.out.pos (by omega)
      simp only [Value.slice.injEq, true_and] at he1
      obtain ⟨rfl, rfl⟩ := he1
      have p0 := hx1 k _ (strs_get hlt)
      have hsz := HL.out l[k] (List.getElem_mem hlt)
      clear hx1
      by_cases h : 40 < l[k].size
      · have d1 : decide ((40 : Int) < (l[k].size : Int)) = true := by (rw [decide_eq_true_iff]; omega)
        clear h
        go_wp2
        go_ret
        exact ⟨⟨false, rfl, fun h => by cases h⟩, rfl⟩
      · have d1 : decide ((40 : Int) < (l[k].size : Int)) = false := by (rw [decide_eq_false_iff_not]; omega)
        clear h
        go_wp2
        exact ⟨⟨k + 1, by omega, by go_num⟩, by simp [intOf]; omega⟩
    · go_wp2
      go_ret
      exact ⟨⟨true, rfl, fun _ => by omega⟩, rfl⟩

/-- A query: its kind, its roles, and the slice of its principals. -/
structure Qv where
  k : Int
  a : Rl
  b : Rl
  w : Value
instance : Inhabited Qv := ⟨⟨0, noR, noR, .slice none 0 0⟩⟩
def Qv.cells (q : Qv) : List Value := [.int .i64 q.k, .string q.a.o, .string q.a.n, .string q.b.o, .string q.b.n, q.w]
theorem Qv.cells_len (q : Qv) : q.cells.length = 6 := rfl
abbrev qv (q : Qv) : Value := .agg #[.int .i64 q.k, .string q.a.o, .string q.a.n, .string q.b.o, .string q.b.n, q.w]
def Qv.ok (q : Qv) (w : World) : Prop := q.a.le 9223372036854775807 ∧ q.b.le 9223372036854775807 ∧ ∃ ss : List ByteArray, SlA w 1 q.w ss.length (strs ss) ∧ ∀ s ∈ ss, s.size ≤ 9223372036854775807
/-- .. and of at most n principals. -/
def Qv.okN (q : Qv) (n : Nat) (w : World) : Prop := q.a.le 9223372036854775807 ∧ q.b.le 9223372036854775807 ∧ ∃ ss : List ByteArray, SlA w 1 q.w ss.length (strs ss) ∧ ss.length ≤ n ∧ ∀ s ∈ ss, s.size ≤ 9223372036854775807
theorem Qv.okN.below {q : Qv} {n : Nat} {w w' : World} (h : q.okN n w) (hb : Below w.heap.size w w') : q.okN n w' := by
  obtain ⟨h1, h2, ss, h3, h5, h4⟩ := h
  exact ⟨h1, h2, ss, h3.below hb, h5, h4⟩
/-- Some bool comes back; if it is true the query names at most 40 principals. -/
def LightQ (q : Qv) (w : World) (e : Ending) : Prop := ∃ b, e = .returned (.bool b) ∧ (b = true → q.okN 40 w)
theorem Qv.ok.below {q : Qv} {w w' : World} (h : q.ok w) (hb : Below w.heap.size w w') : q.ok w' := by
  obtain ⟨h1, h2, ss, h3, h4⟩ := h
  exact ⟨h1, h2, ss, h3.below hb, h4⟩
theorem q_cell {w : World} {b off : Nat} {l : List Qv} (h : ∀ j u, (l.flatMap Qv.cells)[j]? = some u → w.cell? ⟨b, off + j, none⟩ = some u) (k : Nat) (hk : k < l.length) :
    w.cell? ⟨b, off + k * 6, none⟩ = some (.int .i64 l[k].k) ∧ w.cell? ⟨b, off + k * 6 + 1, none⟩ = some (.string l[k].a.o) ∧ w.cell? ⟨b, off + k * 6 + 2, none⟩ = some (.string l[k].a.n) ∧ w.cell? ⟨b, off + k * 6 + 3, none⟩ = some (.string l[k].b.o) ∧ w.cell? ⟨b, off + k * 6 + 4, none⟩ = some (.string l[k].b.n) ∧ w.cell? ⟨b, off + k * 6 + 5, none⟩ = some l[k].w := by
  have hx : l[k]? = some l[k] := List.getElem?_eq_getElem hk
  have h0 := h _ _ ((flat_get Qv.cells 6 Qv.cells_len l k 0 (by omega) _ hx).trans rfl)
  have h1 := h _ _ ((flat_get Qv.cells 6 Qv.cells_len l k 1 (by omega) _ hx).trans rfl)
  have h2 := h _ _ ((flat_get Qv.cells 6 Qv.cells_len l k 2 (by omega) _ hx).trans rfl)
  have h3 := h _ _ ((flat_get Qv.cells 6 Qv.cells_len l k 3 (by omega) _ hx).trans rfl)
  have h4 := h _ _ ((flat_get Qv.cells 6 Qv.cells_len l k 4 (by omega) _ hx).trans rfl)
  have h5 := h _ _ ((flat_get Qv.cells 6 Qv.cells_len l k 5 (by omega) _ hx).trans rfl)
  exact ⟨h0, h1, h2, h3, h4, h5⟩

set_option maxRecDepth 100000 in
set_option maxHeartbeats 1000000 in
theorem law4_Light (q : Qv) (w : World) (hq : q.ok w) : Calls Tryz.prog 24 #[qv q] w fun e w' => LightQ q w e ∧ Below w.heap.size w w' := by
  obtain ⟨ha, hb, ss, hs, hl⟩ := hq
  obtain ⟨k, ⟨x1, x2⟩, ⟨x3, x4⟩, wv⟩ := q
  have HS := Lib.hid (fun W h => law1_Light wv ss W h hl)
  have HQ := Lib.hid (fun (h : ss.length ≤ 40) => show (⟨k, ⟨x1, x2⟩, ⟨x3, x4⟩, wv⟩ : Qv).okN 40 w from ⟨ha, hb, ss, hs, h, hl⟩)
  have HW := Lib.hid hs
  have H4 := Lib.hid (fun W h => law1_Light (.slice (some ⟨w.heap.size + 1, 0, none⟩) 4 4) [x1, x2, x3, x4] W h (by
    intro s hs; simp at hs; rcases hs with rfl | rfl | rfl | rfl
    · exact ha.1
    · exact ha.2
    · exact hb.1
    · exact hb.2))
  obtain ⟨wo, wc, rfl⟩ := hs.form
  clear ha hb hl hs
  have HB := Lib.hid ((Below.refl _ w).alloc (Nat.le_refl _) (.cells #[.int .i64 k, .string x1, .string x2, .string x3, .string x4, .slice wo ss.length wc] 55))
  have HB2 := Lib.hid (HB.out.alloc HB.out.size (.cells #[.string x1, .string x2, .string x3, .string x4] 9))
  have S4 := Lib.hid (Sl.new (w.alloc (.cells #[.int .i64 k, .string x1, .string x2, .string x3, .string x4, .slice wo ss.length wc] 55)) [.string x1, .string x2, .string x3, .string x4] 9 1 4 (w.heap.size + 1) (by simp) rfl (by simp [maxLen]))
  go_enter Tryz.func24, Tryz.ntmps24
  go_wp2_with fail
  refine (HS.out _ (HW.out.below HB.out)).mono ?_
  rintro e w1 ⟨⟨b1, rfl, hb1⟩, rfl⟩
  have HB1 := Lib.hid hb1
  clear hb1
  cases b1 with
  | false =>
    go_wp2
    go_ret
    exact ⟨⟨false, rfl, fun h => by cases h⟩, HB.out⟩
  | true =>
    go_wp2_with fail
    refine (H4.out _ S4.out.a).mono ?_
    rintro e w1 ⟨⟨b2, rfl, -⟩, rfl⟩
    go_wp2
    go_ret
    exact ⟨⟨b2, rfl, fun _ => HQ.out (HB1.out (by first | rfl | trivial))⟩, HB2.out⟩
end Go.Proofs.YtmpanikeeeoikaaGreat
namespace Go.Proofs.YtmpanikeeeoikaaGreat
open Go.RowKit Go.Shelf

/-- One block of the call's own stands whole. -/
structure OneAt (w : World) (A : Array Value) (wx : World) : Prop where
  a : Blk wx w.heap.size A
  low : Below w.heap.size w wx
theorem OneAt.later {w wx w' : World} {A : Array Value} (h : OneAt w A wx) (hb : Below wx.heap.size wx w') : OneAt w A w' := ⟨h.a.below hb, h.low.trans (hb.mono h.low.size)⟩
theorem OneAt.alloc {w wx : World} {A : Array Value} (h : OneAt w A wx) (o : Obj) : OneAt w A (wx.alloc o) := h.later ((Below.refl _ _).alloc (Nat.le_refl _) o)
theorem OneAt.drew {w wx : World} {A : Array Value} (h : OneAt w A wx) : OneAt w A wx.drew := h.later (below_drew (Below.refl _ _))
end Go.Proofs.YtmpanikeeeoikaaGreat
