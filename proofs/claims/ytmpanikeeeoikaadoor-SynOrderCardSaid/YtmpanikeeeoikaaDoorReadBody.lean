/- The reader of package syn: role, body. -/
import Derived.Test.YtmpanikeeeoikaaDoorRead
namespace Go.Proofs.YtmpanikeeeoikaaDoor
open Go.RowKit Go.Shelf

/-- The role that has to come. -/
def Rd.role (r : Rd) : Rl × Rd := (⟨(r.take 1).1, (((r.take 1).2.take 3).2.take 2).1⟩, (((r.take 1).2.take 3).2.take 2).2)
theorem RdAt.alloc {w0 w : World} {g : Nat} {r : Rd} (h : RdAt w0 w g r) (o : Obj) : RdAt w0 (w.alloc o) g r := h.later ((Below.refl _ _).alloc (Nat.le_refl _) o)
theorem RdAt.set {w0 w : World} {g b o : Nat} {r : Rd} (h : RdAt w0 w g r) (v : Value) (hne : g ≠ b) (hlow : w0.heap.size ≤ b) : RdAt w0 (w.setCell ⟨b, o, none⟩ v) g r :=
  h.grown (gb_setCell (World.grownBy.refl _ _) v) (fun e => hne (by cases e; rfl)) (fun j e => by cases e; exact hlow)
theorem RdAt.lt {w0 w : World} {g : Nat} {r : Rd} (h : RdAt w0 w g r) : g < w.heap.size := by obtain ⟨lv, _, hb⟩ := h.row; exact hb.2.2
theorem take_pair {r : Rd} {k : Int} {x : ByteArray} {r' : Rd} (h : r.take k = (x, r')) (w0 w : World) (g : Nat) (ha : RdAt w0 w g r) :
    Calls Tryd.prog 29 #[.pointer (some ⟨g, 0, none⟩), .int .i64 k] w fun e w' => e = .returned (.string x) ∧ RdAt w0 w' g r' ∧ w.grownBy w' (some g) := by
  have := read_take r w0 w g k ha
  rw [h] at this
  exact this
theorem gb_low {w0 w w1 : World} {g : Nat} {r : Rd} (_h : RdAt w0 w g r) (hg : w.grownBy w1 (some g)) : w.heap.size ≤ w1.heap.size := hg.size

set_option maxRecDepth 100000 in
set_option maxHeartbeats 1000000 in
theorem read_role (r : Rd) (w0 w : World) (g : Nat) (h : RdAt w0 w g r) :
    Calls Tryd.prog 28 #[.pointer (some ⟨g, 0, none⟩)] w fun e w' => e = .returned (rv r.role.1) ∧ RdAt w0 w' g r.role.2 ∧ w.grownBy w' (some g) := by
  have hlt := h.lt
  have hlow := h.below.size
  have E := Lib.hid (show r.role = (⟨(r.take 1).1, (((r.take 1).2.take 3).2.take 2).1⟩, (((r.take 1).2.take 3).2.take 2).2) from rfl)
  cases h1 : r.take 1 with | mk x1 r1 =>
  rw [h1] at E; dsimp only at E
  cases h2 : r1.take 3 with | mk x2 r2 =>
  rw [h2] at E; dsimp only at E
  cases h3 : r2.take 2 with | mk x3 r3 =>
  rw [h3] at E; dsimp only at E
  have T1 := Lib.hid (take_pair h1 w0)
  have T2 := Lib.hid (take_pair h2 w0)
  have T3 := Lib.hid (take_pair h3 w0)
  clear h1 h2 h3
  have hne : some w.heap.size ≠ some g := fun e => by cases e; omega
  have hng : g ≠ w.heap.size := fun e => by omega
  go_enter Tryd.func28, Tryd.ntmps28
  go_wp2_with (first
    | (go_at_call 29; (with_reducible refine (T1.out _ g ?_).mono ?_); exact h.alloc _; rintro e w1 ⟨rfl, hr1, hg1⟩; have HB1 := (Blk.new _ _ _).grown hg1 hne; obtain ⟨ca, fa, za⟩ := id HB1)
    | (go_at_call 29; (with_reducible refine (T2.out _ g ?_).mono ?_); exact hr1.set _ hng hlow; rintro e w2 ⟨rfl, hr2, hg2⟩; have HB2 := (HB1.set 0 (.string x1) Nat.zero_lt_two).grown hg2 hne; obtain ⟨ca2, fa2, za2⟩ := id HB2)
    | (go_at_call 29; (with_reducible refine (T3.out _ g ?_).mono ?_); exact hr2; rintro e w3 ⟨rfl, hr3, hg3⟩; have HB3 := HB2.grown hg3 hne; obtain ⟨ca3, fa3, za3⟩ := id HB3))
  refine bodyPost_ret (v := rv ⟨x1, x3⟩) (by simp [results, Tryd.results28, go_sem, ca3]) rfl ⟨by rw [E.out], ?_, ?_⟩
  · rw [E.out]
    exact ((hr3.set _ hng hlow).set _ hng hlow).set _ hng hlow
  · refine gb_new (gb_new (gb_new ?_ (Nat.le_refl _) _) (Nat.le_refl _) _) (Nat.le_refl _) _
    exact gb_trans (gb_trans (gb_new (gb_trans (gb_alloc (World.grownBy.refl _ _) _) hg1) (Nat.le_refl _) _) hg2) hg3

/-- What stands behind a statement's arrow. -/
def Rd.body (r : Rd) (s : St) : St × Rd :=
  if (r.take 1).2.is 3 = false then ({ s with k := 1, who := (r.take 1).1 }, (r.take 1).2) else
  if ((((r.take 1).2.take 3).2.take 2).2).is 3 then
    ({ s with k := 3, a := ⟨(r.take 1).1, (((r.take 1).2.take 3).2.take 2).1⟩, via := (((((r.take 1).2.take 3).2.take 2).2.take 3).2.take 2).1 }, (((((r.take 1).2.take 3).2.take 2).2.take 3).2.take 2).2)
  else if ((((r.take 1).2.take 3).2.take 2).2).is 5 then
    ({ s with k := 4, a := ⟨(r.take 1).1, (((r.take 1).2.take 3).2.take 2).1⟩, b := ((((r.take 1).2.take 3).2.take 2).2.take 5).2.role.1 }, ((((r.take 1).2.take 3).2.take 2).2.take 5).2.role.2)
  else ({ s with k := 2, a := ⟨(r.take 1).1, (((r.take 1).2.take 3).2.take 2).1⟩ }, (((r.take 1).2.take 3).2.take 2).2)

theorem role_pair {r : Rd} {x : Rl} {r' : Rd} (h : r.role = (x, r')) (w0 w : World) (g : Nat) (ha : RdAt w0 w g r) :
    Calls Tryd.prog 28 #[.pointer (some ⟨g, 0, none⟩)] w fun e w' => e = .returned (rv x) ∧ RdAt w0 w' g r' ∧ w.grownBy w' (some g) := by
  have := read_role r w0 w g ha
  rw [h] at this
  exact this
theorem is_true {r : Rd} {k : Int} {b : Bool} (h : r.is k = b) (w0 w : World) (g : Nat) (ha : RdAt w0 w g r) :
    Calls Tryd.prog 47 #[.pointer (some ⟨g, 0, none⟩), .int .i64 k] w fun e w' => e = .returned (.bool b) ∧ w = w' := by
  have := read_is r w0 w g k ha
  rw [h] at this
  exact this

section
variable {r r1 r2 r3 r4 r5 : Rd} {x1 x2 x3 x4 x5 : ByteArray} {x : Rl}
theorem body1 (s : St) (h1 : r.take 1 = (x1, r1)) (i1 : r1.is 3 = false) : r.body s = ({ s with k := 1, who := x1 }, r1) := by simp [Rd.body, h1, i1]
theorem body2 (s : St) (h1 : r.take 1 = (x1, r1)) (i1 : r1.is 3 = true) (h2 : r1.take 3 = (x2, r2)) (h3 : r2.take 2 = (x3, r3)) (i3 : r3.is 3 = false) (i5 : r3.is 5 = false) :
    r.body s = ({ s with k := 2, a := ⟨x1, x3⟩ }, r3) := by simp [Rd.body, h1, i1, h2, h3, i3, i5]
theorem body3 (s : St) (h1 : r.take 1 = (x1, r1)) (i1 : r1.is 3 = true) (h2 : r1.take 3 = (x2, r2)) (h3 : r2.take 2 = (x3, r3)) (i3 : r3.is 3 = true) (h4 : r3.take 3 = (x4, r4)) (h5 : r4.take 2 = (x5, r5)) :
    r.body s = ({ s with k := 3, a := ⟨x1, x3⟩, via := x5 }, r5) := by simp [Rd.body, h1, i1, h2, h3, i3, h4, h5]
theorem body4 (s : St) (h1 : r.take 1 = (x1, r1)) (i1 : r1.is 3 = true) (h2 : r1.take 3 = (x2, r2)) (h3 : r2.take 2 = (x3, r3)) (i3 : r3.is 3 = false) (i5 : r3.is 5 = true) (h4 : r3.take 5 = (x4, r4)) (h5 : r4.role = (x, r5)) :
    r.body s = ({ s with k := 4, a := ⟨x1, x3⟩, b := x }, r5) := by simp [Rd.body, h1, i1, h2, h3, i3, i5, h4, h5]
end
set_option maxRecDepth 100000 in
set_option maxHeartbeats 4000000 in
theorem read_body (r : Rd) (s : St) (w0 w : World) (g b : Nat) (h : RdAt w0 w g r) (hb : Blk w b s.cells.toArray) (hgb : g ≠ b) (hlow : w0.heap.size ≤ b) :
    Calls Tryd.prog 30 #[.pointer (some ⟨g, 0, none⟩), .pointer (some ⟨b, 0, none⟩)] w
      fun e w' => e = .returned (.tuple #[]) ∧ RdAt w0 w' g (r.body s).2 ∧ Blk w' b (r.body s).1.cells.toArray := by
  obtain ⟨k, ⟨s1, s2⟩, who, ⟨a1, a2⟩, ⟨b1, b2⟩, via⟩ := s
  simp only [St.cells] at hb
  have hne : some b ≠ some g := fun e => hgb (by cases e; rfl)
  cases h1 : r.take 1 with | mk x1 r1 =>
  have T1 := Lib.hid (take_pair h1 w0)
  cases i1 : r1.is 3 with
  | false =>
    have I1 := Lib.hid (is_true i1 w0)
    have E := Lib.hid (body1 ⟨k, ⟨s1, s2⟩, who, ⟨a1, a2⟩, ⟨b1, b2⟩, via⟩ h1 i1)
    clear i1 h1
    go_enter Tryd.func30, Tryd.ntmps30
    go_wp2_with (first
      | (go_at_call 29; (with_reducible refine (T1.out _ g ?_).mono ?_); exact h; rintro e w1 ⟨rfl, hr1, hg1⟩; have HB1 := hb.grown hg1 hne; obtain ⟨ca, fa, za⟩ := id HB1)
      | (go_at_call 47; (with_reducible refine (I1.out _ g ?_).mono ?_); exact hr1; rintro e w2 ⟨rfl, rfl⟩))
    refine bodyPost_ret (results_none rfl _ _ _) rfl ?_
    rw [E.out]
    exact ⟨rfl, (hr1.set _ hgb hlow).set _ hgb hlow, (HB1.set 0 _ (by simp)).set 3 _ (by simp)⟩
  | true =>
    have I1 := Lib.hid (is_true i1 w0)
    cases h2 : r1.take 3 with | mk x2 r2 =>
    have T2 := Lib.hid (take_pair h2 w0)
    cases h3 : r2.take 2 with | mk x3 r3 =>
    have T3 := Lib.hid (take_pair h3 w0)
    cases i3 : r3.is 3 with
    | true =>
      have I3 := Lib.hid (is_true i3 w0)
      cases h4 : r3.take 3 with | mk x4 r4 =>
      have T4 := Lib.hid (take_pair h4 w0)
      cases h5 : r4.take 2 with | mk x5 r5 =>
      have T5 := Lib.hid (take_pair h5 w0)
      have E := Lib.hid (body3 ⟨k, ⟨s1, s2⟩, who, ⟨a1, a2⟩, ⟨b1, b2⟩, via⟩ h1 i1 h2 h3 i3 h4 h5)
      clear h1 i1 h2 h3 i3 h4 h5
      go_enter Tryd.func30, Tryd.ntmps30
      go_wp2_with (first
        | (go_at_call 29; (with_reducible refine (T1.out _ g ?_).mono ?_); exact h; rintro e w1 ⟨rfl, hr1, hg1⟩; have HB1 := hb.grown hg1 hne; obtain ⟨ca, fa, za⟩ := id HB1)
        | (go_at_call 47; (with_reducible refine (I1.out _ g ?_).mono ?_); exact hr1; rintro e w2 ⟨rfl, rfl⟩)
        | (go_at_call 29; (with_reducible refine (T2.out _ g ?_).mono ?_); exact hr1; rintro e w2 ⟨rfl, hr2, hg2⟩; have HB2 := HB1.grown hg2 hne; obtain ⟨ca2, fa2, za2⟩ := id HB2)
        | (go_at_call 29; (with_reducible refine (T3.out _ g ?_).mono ?_); exact hr2; rintro e w3 ⟨rfl, hr3, hg3⟩; have HB3 := HB2.grown hg3 hne; obtain ⟨ca3, fa3, za3⟩ := id HB3)
        | (go_at_call 47; (with_reducible refine (I3.out _ g ?_).mono ?_); exact ((hr3.set _ hgb hlow).set _ hgb hlow).set _ hgb hlow; rintro e w2 ⟨rfl, rfl⟩)
        | (go_at_call 29; (with_reducible refine (T4.out _ g ?_).mono ?_); exact ((hr3.set _ hgb hlow).set _ hgb hlow).set _ hgb hlow; rintro e w4 ⟨rfl, hr4, hg4⟩; have HB4 := (((HB3.set 0 _ (of_decide_eq_true rfl)).set 4 _ (of_decide_eq_true rfl)).set 5 _ (of_decide_eq_true rfl)).grown hg4 hne; obtain ⟨ca4, fa4, za4⟩ := id HB4)
        | (go_at_call 29; (with_reducible refine (T5.out _ g ?_).mono ?_); exact hr4; rintro e w5 ⟨rfl, hr5, hg5⟩; have HB5 := HB4.grown hg5 hne; obtain ⟨ca5, fa5, za5⟩ := id HB5))
      go_end0
      rw [E.out]
      exact ⟨rfl, (hr5.set _ hgb hlow).set _ hgb hlow, (HB5.set 0 _ (by simp)).set 8 _ (by simp)⟩
    | false =>
      have I3 := Lib.hid (is_true i3 w0)
      cases i5 : r3.is 5 with
      | true =>
        have I5 := Lib.hid (is_true i5 w0)
        cases h4 : r3.take 5 with | mk x4 r4 =>
        have T4 := Lib.hid (take_pair h4 w0)
        cases h5 : r4.role with | mk x5 r5 =>
        obtain ⟨y1, y2⟩ := x5
        have T5 := Lib.hid (role_pair h5 w0)
        have E := Lib.hid (body4 ⟨k, ⟨s1, s2⟩, who, ⟨a1, a2⟩, ⟨b1, b2⟩, via⟩ h1 i1 h2 h3 i3 i5 h4 h5)
        clear h1 i1 h2 h3 i3 h4 h5 i5
        go_enter Tryd.func30, Tryd.ntmps30
        go_wp2_with (first
          | (go_at_call 29; (with_reducible refine (T1.out _ g ?_).mono ?_); exact h; rintro e w1 ⟨rfl, hr1, hg1⟩; have HB1 := hb.grown hg1 hne; obtain ⟨ca, fa, za⟩ := id HB1)
          | (go_at_call 47; (with_reducible refine (I1.out _ g ?_).mono ?_); exact hr1; rintro e w2 ⟨rfl, rfl⟩)
          | (go_at_call 29; (with_reducible refine (T2.out _ g ?_).mono ?_); exact hr1; rintro e w2 ⟨rfl, hr2, hg2⟩; have HB2 := HB1.grown hg2 hne; obtain ⟨ca2, fa2, za2⟩ := id HB2)
          | (go_at_call 29; (with_reducible refine (T3.out _ g ?_).mono ?_); exact hr2; rintro e w3 ⟨rfl, hr3, hg3⟩; have HB3 := HB2.grown hg3 hne; obtain ⟨ca3, fa3, za3⟩ := id HB3)
          | (go_at_call 47; (with_reducible refine (I3.out _ g ?_).mono ?_); exact ((hr3.set _ hgb hlow).set _ hgb hlow).set _ hgb hlow; rintro e w2 ⟨rfl, rfl⟩)
          | (go_at_call 47; (with_reducible refine (I5.out _ g ?_).mono ?_); exact ((hr3.set _ hgb hlow).set _ hgb hlow).set _ hgb hlow; rintro e w2 ⟨rfl, rfl⟩)
          | (go_at_call 29; (with_reducible refine (T4.out _ g ?_).mono ?_); exact ((hr3.set _ hgb hlow).set _ hgb hlow).set _ hgb hlow; rintro e w4 ⟨rfl, hr4, hg4⟩; have HB4 := (((HB3.set 0 _ (of_decide_eq_true rfl)).set 4 _ (of_decide_eq_true rfl)).set 5 _ (of_decide_eq_true rfl)).grown hg4 hne; obtain ⟨ca4, fa4, za4⟩ := id HB4)
          | (go_at_call 28; (with_reducible refine (T5.out _ g ?_).mono ?_); exact hr4; rintro e w5 ⟨rfl, hr5, hg5⟩; have HB5 := HB4.grown hg5 hne; obtain ⟨ca5, fa5, za5⟩ := id HB5))
        go_end0
        rw [E.out]
        exact ⟨rfl, ((hr5.set _ hgb hlow).set _ hgb hlow).set _ hgb hlow, ((HB5.set 0 _ (by simp)).set 6 _ (by simp)).set 7 _ (by simp)⟩
      | false =>
        have I5 := Lib.hid (is_true i5 w0)
        have E := Lib.hid (body2 ⟨k, ⟨s1, s2⟩, who, ⟨a1, a2⟩, ⟨b1, b2⟩, via⟩ h1 i1 h2 h3 i3 i5)
        clear h1 i1 h2 h3 i3 i5
        go_enter Tryd.func30, Tryd.ntmps30
        go_wp2_with (first
          | (go_at_call 29; (with_reducible refine (T1.out _ g ?_).mono ?_); exact h; rintro e w1 ⟨rfl, hr1, hg1⟩; have HB1 := hb.grown hg1 hne; obtain ⟨ca, fa, za⟩ := id HB1)
          | (go_at_call 47; (with_reducible refine (I1.out _ g ?_).mono ?_); exact hr1; rintro e w2 ⟨rfl, rfl⟩)
          | (go_at_call 29; (with_reducible refine (T2.out _ g ?_).mono ?_); exact hr1; rintro e w2 ⟨rfl, hr2, hg2⟩; have HB2 := HB1.grown hg2 hne; obtain ⟨ca2, fa2, za2⟩ := id HB2)
          | (go_at_call 29; (with_reducible refine (T3.out _ g ?_).mono ?_); exact hr2; rintro e w3 ⟨rfl, hr3, hg3⟩; have HB3 := HB2.grown hg3 hne; obtain ⟨ca3, fa3, za3⟩ := id HB3)
          | (go_at_call 47; (with_reducible refine (I3.out _ g ?_).mono ?_); exact ((hr3.set _ hgb hlow).set _ hgb hlow).set _ hgb hlow; rintro e w2 ⟨rfl, rfl⟩)
          | (go_at_call 47; (with_reducible refine (I5.out _ g ?_).mono ?_); exact ((hr3.set _ hgb hlow).set _ hgb hlow).set _ hgb hlow; rintro e w2 ⟨rfl, rfl⟩))
        go_end0
        rw [E.out]
        exact ⟨rfl, ((hr3.set _ hgb hlow).set _ hgb hlow).set _ hgb hlow, ((HB3.set 0 _ (by simp)).set 4 _ (by simp)).set 5 _ (by simp)⟩
end Go.Proofs.YtmpanikeeeoikaaDoor
