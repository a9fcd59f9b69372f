/- The reader of package syn: take, is, role, body. The reader of package syn: role, body. The reference of layer 1: what its small functions return, for every text. -/
import Derived.Test.YtomhekohcadijaaGreatDoorPartRF1
import Derived.Test.YtomhekohcadijaaGreatDoorPartRF2
namespace Go.Proofs.YtomhekohcadijaaGreatDoor
open Go.RowKit Go.Shelf

structure Rd where
  l : List Tok
  e : Int
  p : Int
  why : Int
abbrev rdCells (lv : Value) (r : Rd) : Array Value := #[lv, .int .i64 r.e, .int .i64 r.p, .int .i64 r.why]
structure RdAt (w0 w : World) (g : Nat) (r : Rd) : Prop where
  low : w0.heap.size ≤ g
  below : Below w0.heap.size w0 w
  row : ∃ lv, Sl w0 3 lv r.l.length (r.l.flatMap Tok.cells) ∧ Blk w g (rdCells lv r)
theorem RdAt.grown {w0 w w' : World} {g : Nat} {r : Rd} {k : Option Nat} (h : RdAt w0 w g r) (hg : w.grownBy w' k) (hne : some g ≠ k) (hk : ∀ j, k = some j → w0.heap.size ≤ j) : RdAt w0 w' g r := by
  obtain ⟨lv, hs, hb⟩ := h.row
  exact ⟨h.low, h.below.grown hg h.below.size hk, lv, hs, hb.grown hg hne⟩
theorem RdAt.later {w0 w w' : World} {g : Nat} {r : Rd} (h : RdAt w0 w g r) (hb : Below w.heap.size w w') : RdAt w0 w' g r :=
  h.grown (gb_of_below (r := none) hb) (by simp) (by simp)

def Rd.fail (r : Rd) (p y : Int) : Rd := ⟨r.l, r.e, p, y⟩
def Rd.drop1 (r : Rd) : Rd := ⟨r.l.tail, r.e, r.p, r.why⟩
def Rd.take (r : Rd) (k : Int) : ByteArray × Rd :=
  if r.why ≠ 0 then (emp, r) else
  match r.l with
  | [] => (emp, r.fail r.e 3)
  | t :: _ => if t.kind = k then (⟨t.text.toArray⟩, r.drop1) else (emp, r.fail t.col 2)
def Rd.is (r : Rd) (k : Int) : Bool :=
  decide (r.why = 0) && match r.l with | [] => false | t :: _ => decide (t.kind = k)
theorem take_why (r : Rd) (k : Int) (h : r.why ≠ 0) : r.take k = (emp, r) := if_pos h
theorem take_nil (e p k : Int) : (Rd.mk [] e p 0).take k = (emp, ⟨[], e, e, 3⟩) := rfl
theorem take_no (t : Tok) (l : List Tok) (e p k : Int) (h : ¬ t.kind = k) : (Rd.mk (t :: l) e p 0).take k = (emp, ⟨t :: l, e, t.col, 2⟩) := by
  simp only [Rd.take, ne_eq, not_true_eq_false, if_false, if_neg h]; rfl
theorem take_yes (t : Tok) (l : List Tok) (e p k : Int) (h : t.kind = k) : (Rd.mk (t :: l) e p 0).take k = (⟨t.text.toArray⟩, ⟨l, e, p, 0⟩) := by
  simp only [Rd.take, ne_eq, not_true_eq_false, if_false, if_pos h]; rfl

theorem tk_head {w : World} {b off : Nat} {t : Tok} {l : List Tok} (h : ∀ j u, ((t :: l).flatMap Tok.cells)[j]? = some u → w.cell? ⟨b, off + j, none⟩ = some u) :
    w.cell? ⟨b, off, none⟩ = some (.int .i64 t.kind) ∧ w.cell? ⟨b, off + 1, none⟩ = some (.string ⟨t.text.toArray⟩) ∧ w.cell? ⟨b, off + 2, none⟩ = some (.int .i64 t.col) :=
  ⟨h 0 _ rfl, h 1 _ rfl, h 2 _ rfl⟩
theorem Sl.tail {w : World} {b off cap : Nat} {t : Tok} {l : List Tok} (hl : (t :: l).length ≤ cap) (hm : cap ≤ 9223372036854775807) (hlt : b < w.heap.size)
    (h : ∀ j u, ((t :: l).flatMap Tok.cells)[j]? = some u → w.cell? ⟨b, off + j, none⟩ = some u) : Sl w 3 (.slice (some ⟨b, off + 3, none⟩) l.length (cap - 1)) l.length (l.flatMap Tok.cells) := by
  simp only [List.length_cons] at hl
  refine ⟨flat_len _ _ Tok.cells_len l, by simp only [maxLen]; omega, .inr ⟨b, off + 3, cap - 1, rfl, by omega, by simp only [maxLen]; omega, hlt, fun j u hu => ?_⟩⟩
  have := h (j + 3) u (by rw [List.flatMap_cons, List.getElem?_append_right (by rw [Tok.cells_len]; omega), Tok.cells_len]; simpa using hu)
  rwa [show off + 3 + j = off + (j + 3) by omega]

set_option maxRecDepth 100000 in
set_option maxHeartbeats 1000000 in
theorem read_take (r : Rd) (w0 w : World) (g : Nat) (k : Int) (h : RdAt w0 w g r) :
    Calls Tryz.prog 157 #[.pointer (some ⟨g, 0, none⟩), .int .i64 k] w fun e w' => e = .returned (.string (r.take k).1) ∧ RdAt w0 w' g (r.take k).2 ∧ w.grownBy w' (some g) := by
  have H := Lib.hid h
  obtain ⟨hlow, hbel, lv, hs, hblk⟩ := h
  obtain ⟨l, e, p, why⟩ := r
  have hg := hblk.2.2
  have c0 := hblk.cell 0 lv rfl
  have c1 := hblk.cell 1 (.int .i64 e) rfl
  have c2 := hblk.cell 2 (.int .i64 p) rfl
  have c3 := hblk.cell 3 (.int .i64 why) rfl
  have f0 := hblk.2.1
  by_cases hw : why = 0
  · subst hw
    have hsz := hbel.size
    have HS := Lib.hid hs
    have HB := Lib.hid hblk
    have HBE := Lib.hid hbel
    cases l with
    | nil =>
      have E := Lib.hid (take_nil e p k)
      obtain ⟨a, cap, rfl⟩ := hs.form
      clear hs hblk hbel
      go_enter Tryz.func157, Tryz.ntmps157
      go_wp2
      go_ret
      rw [E.out]
      exact ⟨rfl, ⟨hlow, (HBE.out.setCell hlow _).setCell hlow _, _, HS.out, ((HB.out.set 3 _ (by simp)).set 2 _ (by simp))⟩, gb_setCell (gb_setCell (World.grownBy.refl _ _) _) _⟩
    | cons t tl =>
      obtain ⟨b, off, cap, rfl, hc, hm, hlt, hx⟩ := hs.pos (by simp)
      obtain ⟨t0, t1, t2⟩ := tk_head (Sl.cells_later hbel hlt hx)
      have HX := Lib.hid hx
      have hbg : ¬ b = g := by omega
      have hbw : b < w.heap.size := by omega
      by_cases hk : t.kind = k
      · have E := Lib.hid (take_yes t tl e p k hk)
        have d1 : (t.kind != k) = false := by simp [hk]
        have HL := Lib.hid hc
        have hlen : (t :: tl).length = tl.length + 1 := rfl
        clear hs hblk hbel hx hk
        go_enter Tryz.func157, Tryz.ntmps157
        go_wp2
        · go_ret
          rw [E.out]
          refine ⟨rfl, ⟨hlow, ?_, _, ?_, ((HB.out.set 0 _ (by simp)).alloc _)⟩, gb_alloc (gb_setCell (World.grownBy.refl _ _) _) _⟩
          · exact (HBE.out.setCell hlow _).alloc (by simpa [World.setCell] using hsz) _
          · obtain rfl : tl = [] := List.eq_nil_of_length_eq_zero (by have := HL.out; simp at this; omega)
            exact ⟨rfl, by simp [maxLen], .inr ⟨b, off, 0, rfl, Nat.le_refl _, by simp [maxLen], hlt, fun j u hu => by simp at hu⟩⟩
        · go_ret
          rw [E.out]
          refine ⟨rfl, ⟨hlow, ?_, _, ?_, ((HB.out.set 0 _ (by simp)).alloc _)⟩, gb_alloc (gb_setCell (World.grownBy.refl _ _) _) _⟩
          · exact (HBE.out.setCell hlow _).alloc (by simpa [World.setCell] using hsz) _
          · exact Sl.tail HL.out hm hlt HX.out
      · have E := Lib.hid (take_no t tl e p k hk)
        have d1 : (t.kind != k) = true := by simp [hk]
        clear hs hblk hbel hx hk
        go_enter Tryz.func157, Tryz.ntmps157
        go_wp2
        go_ret
        rw [E.out]
        exact ⟨rfl, ⟨hlow, (HBE.out.setCell hlow _).setCell hlow _, _, HS.out, ((HB.out.set 3 _ (by simp)).set 2 _ (by simp))⟩, gb_setCell (gb_setCell (World.grownBy.refl _ _) _) _⟩
  · have d : (why != 0) = true := by simp [hw]
    have E := Lib.hid (take_why ⟨l, e, p, why⟩ k hw)
    clear hw hs hblk hbel
    go_enter Tryz.func157, Tryz.ntmps157
    go_wp2
    go_ret
    rw [E.out]
    exact ⟨rfl, H.out, World.grownBy.refl _ _⟩
theorem is_why (r : Rd) (k : Int) (h : ¬ r.why = 0) : r.is k = false := by simp [Rd.is, h]
theorem is_nil (e p k : Int) : (Rd.mk [] e p 0).is k = false := rfl
theorem is_cons (t : Tok) (l : List Tok) (e p k : Int) : (Rd.mk (t :: l) e p 0).is k = (t.kind == k) := by simp [Rd.is]; try rfl
set_option maxRecDepth 100000 in
set_option maxHeartbeats 1000000 in
theorem read_is (r : Rd) (w0 w : World) (g : Nat) (k : Int) (h : RdAt w0 w g r) :
    Calls Tryz.prog 224 #[.pointer (some ⟨g, 0, none⟩), .int .i64 k] w fun e w' => e = .returned (.bool (r.is k)) ∧ w = w' := by
  obtain ⟨hlow, hbel, lv, hs, hblk⟩ := h
  obtain ⟨l, e, p, why⟩ := r
  have hg := hblk.2.2
  have c0 := hblk.cell 0 lv rfl
  have c3 := hblk.cell 3 (.int .i64 why) rfl
  have f0 := hblk.2.1
  by_cases hw : why = 0
  · subst hw
    have hsz := hbel.size
    cases l with
    | nil =>
      have E := Lib.hid (is_nil e p k)
      obtain ⟨a, cap, rfl⟩ := hs.form
      clear hs hblk hbel
      go_enter Tryz.func224, Tryz.ntmps224
      go_wp2
      go_ret
      exact ⟨ret_b (by rw [E.out]), rfl⟩
    | cons t tl =>
      obtain ⟨b, off, cap, rfl, hc, hm, hlt, hx⟩ := hs.pos (by simp)
      obtain ⟨t0, t1, t2⟩ := tk_head (Sl.cells_later hbel hlt hx)
      have E := Lib.hid (is_cons t tl e p k)
      clear hs hblk hbel hx
      have d1 : decide ((0 : Int) < (tl.length : Int) + 1) = true := by (rw [decide_eq_true_iff]; omega)
      go_enter Tryz.func224, Tryz.ntmps224
      go_wp2
      go_ret
      exact ⟨ret_b (by rw [E.out]), rfl⟩
  · have d : (why == 0) = false := by simp [hw]
    have E := Lib.hid (is_why ⟨l, e, p, why⟩ k hw)
    clear hw hs hblk hbel
    go_enter Tryz.func224, Tryz.ntmps224
    go_wp2
    go_ret
    exact ⟨ret_b (by rw [E.out]), rfl⟩
end Go.Proofs.YtomhekohcadijaaGreatDoor
namespace Go.Proofs.YtomhekohcadijaaGreatDoor
open Go.RowKit Go.Shelf

def Rd.role (r : Rd) : Rl × Rd := (⟨(r.take 1).1, (((r.take 1).2.take 3).2.take 2).1⟩, (((r.take 1).2.take 3).2.take 2).2)
theorem RdAt.alloc {w0 w : World} {g : Nat} {r : Rd} (h : RdAt w0 w g r) (o : Obj) : RdAt w0 (w.alloc o) g r := h.later ((Below.refl _ _).alloc (Nat.le_refl _) o)
theorem RdAt.set {w0 w : World} {g b o : Nat} {r : Rd} (h : RdAt w0 w g r) (v : Value) (hne : g ≠ b) (hlow : w0.heap.size ≤ b) : RdAt w0 (w.setCell ⟨b, o, none⟩ v) g r :=
  h.grown (gb_setCell (World.grownBy.refl _ _) v) (fun e => hne (by cases e; rfl)) (fun j e => by cases e; exact hlow)
theorem RdAt.lt {w0 w : World} {g : Nat} {r : Rd} (h : RdAt w0 w g r) : g < w.heap.size := by obtain ⟨lv, _, hb⟩ := h.row; exact hb.2.2
theorem take_pair {r : Rd} {k : Int} {x : ByteArray} {r' : Rd} (h : r.take k = (x, r')) (w0 w : World) (g : Nat) (ha : RdAt w0 w g r) :
    Calls Tryz.prog 157 #[.pointer (some ⟨g, 0, none⟩), .int .i64 k] w fun e w' => e = .returned (.string x) ∧ RdAt w0 w' g r' ∧ w.grownBy w' (some g) := by
  have := read_take r w0 w g k ha
  rw [h] at this
  exact this
set_option maxRecDepth 100000 in
set_option maxHeartbeats 1000000 in
theorem read_role (r : Rd) (w0 w : World) (g : Nat) (h : RdAt w0 w g r) :
    Calls Tryz.prog 156 #[.pointer (some ⟨g, 0, none⟩)] w fun e w' => e = .returned (rv r.role.1) ∧ RdAt w0 w' g r.role.2 ∧ w.grownBy w' (some g) := by
  have hlt := h.lt
  have hlow := h.below.size
  have E := Lib.hid (show r.role = (⟨(r.take 1).1, (((r.take 1).2.take 3).2.take 2).1⟩, (((r.take 1).2.take 3).2.take 2).2) from rfl)
  cases h1 : r.take 1 with | mk x1 r1 =>
  rw [h1] at E; dsimp only at E
  cases h2 : r1.take 3 with | mk x2 r2 =>
  rw [h2] at E; dsimp only at E
  cases h3 : r2.take 2 with | mk x3 r3 =>
  rw [h3] at E; dsimp only at E
  have T1 := Lib.hid (take_pair h1 w0)
  have T2 := Lib.hid (take_pair h2 w0)
  have T3 := Lib.hid (take_pair h3 w0)
  clear h1 h2 h3
  have hne : some w.heap.size ≠ some g := fun e => by cases e; omega
  have hng : g ≠ w.heap.size := fun e => by omega
  go_enter Tryz.func156, Tryz.ntmps156
  go_wp2_with (first
    | (go_at_call 157; (with_reducible refine (T1.out _ g ?_).mono ?_); exact h.alloc _; rintro e w1 ⟨rfl, hr1, hg1⟩; have HB1 := (Blk.new _ _ _).grown hg1 hne; obtain ⟨ca, fa, za⟩ := id HB1)
    | (go_at_call 157; (with_reducible refine (T2.out _ g ?_).mono ?_); exact hr1.set _ hng hlow; rintro e w2 ⟨rfl, hr2, hg2⟩; have HB2 := (HB1.set 0 (.string x1) Nat.zero_lt_two).grown hg2 hne; obtain ⟨ca2, fa2, za2⟩ := id HB2)
    | (go_at_call 157; (with_reducible refine (T3.out _ g ?_).mono ?_); exact hr2; rintro e w3 ⟨rfl, hr3, hg3⟩; have HB3 := HB2.grown hg3 hne; obtain ⟨ca3, fa3, za3⟩ := id HB3))
  refine bodyPost_ret (v := rv ⟨x1, x3⟩) (by simp [results, Tryz.results156, go_sem, ca3]) rfl ⟨by rw [E.out], ?_, ?_⟩
  · rw [E.out]
    exact ((hr3.set _ hng hlow).set _ hng hlow).set _ hng hlow
  · refine gb_new (gb_new (gb_new ?_ (Nat.le_refl _) _) (Nat.le_refl _) _) (Nat.le_refl _) _
    exact gb_trans (gb_trans (gb_new (gb_trans (gb_alloc (World.grownBy.refl _ _) _) hg1) (Nat.le_refl _) _) hg2) hg3

def Rd.body (r : Rd) (s : St) : St × Rd :=
  if (r.take 1).2.is 3 = false then ({ s with k := 1, who := (r.take 1).1 }, (r.take 1).2) else
  if ((((r.take 1).2.take 3).2.take 2).2).is 3 then
    ({ s with k := 3, a := ⟨(r.take 1).1, (((r.take 1).2.take 3).2.take 2).1⟩, via := (((((r.take 1).2.take 3).2.take 2).2.take 3).2.take 2).1 }, (((((r.take 1).2.take 3).2.take 2).2.take 3).2.take 2).2)
  else if ((((r.take 1).2.take 3).2.take 2).2).is 5 then
    ({ s with k := 4, a := ⟨(r.take 1).1, (((r.take 1).2.take 3).2.take 2).1⟩, b := ((((r.take 1).2.take 3).2.take 2).2.take 5).2.role.1 }, ((((r.take 1).2.take 3).2.take 2).2.take 5).2.role.2)
  else ({ s with k := 2, a := ⟨(r.take 1).1, (((r.take 1).2.take 3).2.take 2).1⟩ }, (((r.take 1).2.take 3).2.take 2).2)

theorem role_pair {r : Rd} {x : Rl} {r' : Rd} (h : r.role = (x, r')) (w0 w : World) (g : Nat) (ha : RdAt w0 w g r) :
    Calls Tryz.prog 156 #[.pointer (some ⟨g, 0, none⟩)] w fun e w' => e = .returned (rv x) ∧ RdAt w0 w' g r' ∧ w.grownBy w' (some g) := by
  have := read_role r w0 w g ha
  rw [h] at this
  exact this
theorem is_true {r : Rd} {k : Int} {b : Bool} (h : r.is k = b) (w0 w : World) (g : Nat) (ha : RdAt w0 w g r) :
    Calls Tryz.prog 224 #[.pointer (some ⟨g, 0, none⟩), .int .i64 k] w fun e w' => e = .returned (.bool b) ∧ w = w' := by
  have := read_is r w0 w g k ha
  rw [h] at this
  exact this

section
variable {r r1 r2 r3 r4 r5 : Rd} {x1 x2 x3 x4 x5 : ByteArray} {x : Rl}
theorem body1 (s : St) (h1 : r.take 1 = (x1, r1)) (i1 : r1.is 3 = false) : r.body s = ({ s with k := 1, who := x1 }, r1) := by simp [Rd.body, h1, i1]
theorem body2 (s : St) (h1 : r.take 1 = (x1, r1)) (i1 : r1.is 3 = true) (h2 : r1.take 3 = (x2, r2)) (h3 : r2.take 2 = (x3, r3)) (i3 : r3.is 3 = false) (i5 : r3.is 5 = false) :
    r.body s = ({ s with k := 2, a := ⟨x1, x3⟩ }, r3) := by simp [Rd.body, h1, i1, h2, h3, i3, i5]
theorem body3 (s : St) (h1 : r.take 1 = (x1, r1)) (i1 : r1.is 3 = true) (h2 : r1.take 3 = (x2, r2)) (h3 : r2.take 2 = (x3, r3)) (i3 : r3.is 3 = true) (h4 : r3.take 3 = (x4, r4)) (h5 : r4.take 2 = (x5, r5)) :
    r.body s = ({ s with k := 3, a := ⟨x1, x3⟩, via := x5 }, r5) := by simp [Rd.body, h1, i1, h2, h3, i3, h4, h5]
theorem body4 (s : St) (h1 : r.take 1 = (x1, r1)) (i1 : r1.is 3 = true) (h2 : r1.take 3 = (x2, r2)) (h3 : r2.take 2 = (x3, r3)) (i3 : r3.is 3 = false) (i5 : r3.is 5 = true) (h4 : r3.take 5 = (x4, r4)) (h5 : r4.role = (x, r5)) :
    r.body s = ({ s with k := 4, a := ⟨x1, x3⟩, b := x }, r5) := by simp [Rd.body, h1, i1, h2, h3, i3, i5, h4, h5]
end
set_option maxRecDepth 100000 in
set_option maxHeartbeats 4000000 in
theorem read_body (r : Rd) (s : St) (w0 w : World) (g b : Nat) (h : RdAt w0 w g r) (hb : Blk w b s.cells.toArray) (hgb : g ≠ b) (hlow : w0.heap.size ≤ b) :
    Calls Tryz.prog 158 #[.pointer (some ⟨g, 0, none⟩), .pointer (some ⟨b, 0, none⟩)] w
      fun e w' => e = .returned (.tuple #[]) ∧ RdAt w0 w' g (r.body s).2 ∧ Blk w' b (r.body s).1.cells.toArray := by
  obtain ⟨k, ⟨s1, s2⟩, who, ⟨a1, a2⟩, ⟨b1, b2⟩, via⟩ := s
  simp only [St.cells] at hb
  have hne : some b ≠ some g := fun e => hgb (by cases e; rfl)
  cases h1 : r.take 1 with | mk x1 r1 =>
  have T1 := Lib.hid (take_pair h1 w0)
  cases i1 : r1.is 3 with
  | false =>
    have I1 := Lib.hid (is_true i1 w0)
    have E := Lib.hid (body1 ⟨k, ⟨s1, s2⟩, who, ⟨a1, a2⟩, ⟨b1, b2⟩, via⟩ h1 i1)
    clear i1 h1
    go_enter Tryz.func158, Tryz.ntmps158
    go_wp2_with (first
      | (go_at_call 157; (with_reducible refine (T1.out _ g ?_).mono ?_); exact h; rintro e w1 ⟨rfl, hr1, hg1⟩; have HB1 := hb.grown hg1 hne; obtain ⟨ca, fa, za⟩ := id HB1)
      | (go_at_call 224; (with_reducible refine (I1.out _ g ?_).mono ?_); exact hr1; rintro e w2 ⟨rfl, rfl⟩))
    refine bodyPost_ret (results_none rfl _ _ _) rfl ?_
    rw [E.out]
    exact ⟨rfl, (hr1.set _ hgb hlow).set _ hgb hlow, (HB1.set 0 _ (by simp)).set 3 _ (by simp)⟩
  | true =>
    have I1 := Lib.hid (is_true i1 w0)
    cases h2 : r1.take 3 with | mk x2 r2 =>
    have T2 := Lib.hid (take_pair h2 w0)
    cases h3 : r2.take 2 with | mk x3 r3 =>
    have T3 := Lib.hid (take_pair h3 w0)
    cases i3 : r3.is 3 with
    | true =>
      have I3 := Lib.hid (is_true i3 w0)
      cases h4 : r3.take 3 with | mk x4 r4 =>
      have T4 := Lib.hid (take_pair h4 w0)
      cases h5 : r4.take 2 with | mk x5 r5 =>
      have T5 := Lib.hid (take_pair h5 w0)
      have E := Lib.hid (body3 ⟨k, ⟨s1, s2⟩, who, ⟨a1, a2⟩, ⟨b1, b2⟩, via⟩ h1 i1 h2 h3 i3 h4 h5)
      clear h1 i1 h2 h3 i3 h4 h5
      go_enter Tryz.func158, Tryz.ntmps158
      go_wp2_with (first
        | (go_at_call 157; (with_reducible refine (T1.out _ g ?_).mono ?_); exact h; rintro e w1 ⟨rfl, hr1, hg1⟩; have HB1 := hb.grown hg1 hne; obtain ⟨ca, fa, za⟩ := id HB1)
        | (go_at_call 224; (with_reducible refine (I1.out _ g ?_).mono ?_); exact hr1; rintro e w2 ⟨rfl, rfl⟩)
        | (go_at_call 157; (with_reducible refine (T2.out _ g ?_).mono ?_); exact hr1; rintro e w2 ⟨rfl, hr2, hg2⟩; have HB2 := HB1.grown hg2 hne; obtain ⟨ca2, fa2, za2⟩ := id HB2)
        | (go_at_call 157; (with_reducible refine (T3.out _ g ?_).mono ?_); exact hr2; rintro e w3 ⟨rfl, hr3, hg3⟩; have HB3 := HB2.grown hg3 hne; obtain ⟨ca3, fa3, za3⟩ := id HB3)
        | (go_at_call 224; (with_reducible refine (I3.out _ g ?_).mono ?_); exact ((hr3.set _ hgb hlow).set _ hgb hlow).set _ hgb hlow; rintro e w2 ⟨rfl, rfl⟩)
        | (go_at_call 157; (with_reducible refine (T4.out _ g ?_).mono ?_); exact ((hr3.set _ hgb hlow).set _ hgb hlow).set _ hgb hlow; rintro e w4 ⟨rfl, hr4, hg4⟩; have HB4 := (((HB3.set 0 _ (of_decide_eq_true rfl)).set 4 _ (of_decide_eq_true rfl)).set 5 _ (of_decide_eq_true rfl)).grown hg4 hne; obtain ⟨ca4, fa4, za4⟩ := id HB4)
        | (go_at_call 157; (with_reducible refine (T5.out _ g ?_).mono ?_); exact hr4; rintro e w5 ⟨rfl, hr5, hg5⟩; have HB5 := HB4.grown hg5 hne; obtain ⟨ca5, fa5, za5⟩ := id HB5))
      go_end0
      rw [E.out]
      exact ⟨rfl, (hr5.set _ hgb hlow).set _ hgb hlow, (HB5.set 0 _ (by simp)).set 8 _ (by simp)⟩
    | false =>
      have I3 := Lib.hid (is_true i3 w0)
      cases i5 : r3.is 5 with
      | true =>
        have I5 := Lib.hid (is_true i5 w0)
        cases h4 : r3.take 5 with | mk x4 r4 =>
        have T4 := Lib.hid (take_pair h4 w0)
        cases h5 : r4.role with | mk x5 r5 =>
        obtain ⟨y1, y2⟩ := x5
        have T5 := Lib.hid (role_pair h5 w0)
        have E := Lib.hid (body4 ⟨k, ⟨s1, s2⟩, who, ⟨a1, a2⟩, ⟨b1, b2⟩, via⟩ h1 i1 h2 h3 i3 i5 h4 h5)
        clear h1 i1 h2 h3 i3 h4 h5 i5
        go_enter Tryz.func158, Tryz.ntmps158
        go_wp2_with (first
          | (go_at_call 157; (with_reducible refine (T1.out _ g ?_).mono ?_); exact h; rintro e w1 ⟨rfl, hr1, hg1⟩; have HB1 := hb.grown hg1 hne; obtain ⟨ca, fa, za⟩ := id HB1)
          | (go_at_call 224; (with_reducible refine (I1.out _ g ?_).mono ?_); exact hr1; rintro e w2 ⟨rfl, rfl⟩)
          | (go_at_call 157; (with_reducible refine (T2.out _ g ?_).mono ?_); exact hr1; rintro e w2 ⟨rfl, hr2, hg2⟩; have HB2 := HB1.grown hg2 hne; obtain ⟨ca2, fa2, za2⟩ := id HB2)
          | (go_at_call 157; (with_reducible refine (T3.out _ g ?_).mono ?_); exact hr2; rintro e w3 ⟨rfl, hr3, hg3⟩; have HB3 := HB2.grown hg3 hne; obtain ⟨ca3, fa3, za3⟩ := id HB3)
          | (go_at_call 224; (with_reducible refine (I3.out _ g ?_).mono ?_); exact ((hr3.set _ hgb hlow).set _ hgb hlow).set _ hgb hlow; rintro e w2 ⟨rfl, rfl⟩)
          | (go_at_call 224; (with_reducible refine (I5.out _ g ?_).mono ?_); exact ((hr3.set _ hgb hlow).set _ hgb hlow).set _ hgb hlow; rintro e w2 ⟨rfl, rfl⟩)
          | (go_at_call 157; (with_reducible refine (T4.out _ g ?_).mono ?_); exact ((hr3.set _ hgb hlow).set _ hgb hlow).set _ hgb hlow; rintro e w4 ⟨rfl, hr4, hg4⟩; have HB4 := (((HB3.set 0 _ (of_decide_eq_true rfl)).set 4 _ (of_decide_eq_true rfl)).set 5 _ (of_decide_eq_true rfl)).grown hg4 hne; obtain ⟨ca4, fa4, za4⟩ := id HB4)
          | (go_at_call 156; (with_reducible refine (T5.out _ g ?_).mono ?_); exact hr4; rintro e w5 ⟨rfl, hr5, hg5⟩; have HB5 := HB4.grown hg5 hne; obtain ⟨ca5, fa5, za5⟩ := id HB5))
        go_end0
        rw [E.out]
        exact ⟨rfl, ((hr5.set _ hgb hlow).set _ hgb hlow).set _ hgb hlow, ((HB5.set 0 _ (by simp)).set 6 _ (by simp)).set 7 _ (by simp)⟩
      | false =>
        have I5 := Lib.hid (is_true i5 w0)
        have E := Lib.hid (body2 ⟨k, ⟨s1, s2⟩, who, ⟨a1, a2⟩, ⟨b1, b2⟩, via⟩ h1 i1 h2 h3 i3 i5)
        clear h1 i1 h2 h3 i3 i5
        go_enter Tryz.func158, Tryz.ntmps158
        go_wp2_with (first
          | (go_at_call 157; (with_reducible refine (T1.out _ g ?_).mono ?_); exact h; rintro e w1 ⟨rfl, hr1, hg1⟩; have HB1 := hb.grown hg1 hne; obtain ⟨ca, fa, za⟩ := id HB1)
          | (go_at_call 224; (with_reducible refine (I1.out _ g ?_).mono ?_); exact hr1; rintro e w2 ⟨rfl, rfl⟩)
          | (go_at_call 157; (with_reducible refine (T2.out _ g ?_).mono ?_); exact hr1; rintro e w2 ⟨rfl, hr2, hg2⟩; have HB2 := HB1.grown hg2 hne; obtain ⟨ca2, fa2, za2⟩ := id HB2)
          | (go_at_call 157; (with_reducible refine (T3.out _ g ?_).mono ?_); exact hr2; rintro e w3 ⟨rfl, hr3, hg3⟩; have HB3 := HB2.grown hg3 hne; obtain ⟨ca3, fa3, za3⟩ := id HB3)
          | (go_at_call 224; (with_reducible refine (I3.out _ g ?_).mono ?_); exact ((hr3.set _ hgb hlow).set _ hgb hlow).set _ hgb hlow; rintro e w2 ⟨rfl, rfl⟩)
          | (go_at_call 224; (with_reducible refine (I5.out _ g ?_).mono ?_); exact ((hr3.set _ hgb hlow).set _ hgb hlow).set _ hgb hlow; rintro e w2 ⟨rfl, rfl⟩))
        go_end0
        rw [E.out]
        exact ⟨rfl, ((hr3.set _ hgb hlow).set _ hgb hlow).set _ hgb hlow, ((HB3.set 0 _ (by simp)).set 4 _ (by simp)).set 5 _ (by simp)⟩
end Go.Proofs.YtomhekohcadijaaGreatDoor
namespace Go.Proofs.YtomhekohcadijaaGreatDoor
open Go.RowKit Go.Shelf

end Go.Proofs.YtomhekohcadijaaGreatDoor
