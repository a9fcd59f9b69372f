/- The reader of package syn: take, is, role, body. -/
import Derived.Test.YtmpanikeeeoikaaDoorPlain3
import Derived.Test.YtmpanikeeeoikaaDoorSynSpec
namespace Go.Proofs.YtmpanikeeeoikaaDoor
open Go.RowKit Go.Shelf

structure Rd where
  l : List Tok
  e : Int
  p : Int
  why : Int
abbrev rdCells (lv : Value) (r : Rd) : Array Value := #[lv, .int .i64 r.e, .int .i64 r.p, .int .i64 r.why]
/-- A reader lies in block g of w; its tokens lay in w0 already. -/
structure RdAt (w0 w : World) (g : Nat) (r : Rd) : Prop where
  low : w0.heap.size ≤ g
  below : Below w0.heap.size w0 w
  row : ∃ lv, Sl w0 3 lv r.l.length (r.l.flatMap Tok.cells) ∧ Blk w g (rdCells lv r)
theorem RdAt.grown {w0 w w' : World} {g : Nat} {r : Rd} {k : Option Nat} (h : RdAt w0 w g r) (hg : w.grownBy w' k) (hne : some g ≠ k) (hk : ∀ j, k = some j → w0.heap.size ≤ j) : RdAt w0 w' g r := by
  obtain ⟨lv, hs, hb⟩ := h.row
  exact ⟨h.low, h.below.grown hg h.below.size hk, lv, hs, hb.grown hg hne⟩
theorem RdAt.later {w0 w w' : World} {g : Nat} {r : Rd} (h : RdAt w0 w g r) (hb : Below w.heap.size w w') : RdAt w0 w' g r :=
  h.grown (gb_of_below (r := none) hb) (by simp) (by simp)

def Rd.fail (r : Rd) (p y : Int) : Rd := ⟨r.l, r.e, p, y⟩
def Rd.drop1 (r : Rd) : Rd := ⟨r.l.tail, r.e, r.p, r.why⟩
/-- The token that comes has to be of a kind. -/
def Rd.take (r : Rd) (k : Int) : ByteArray × Rd :=
  if r.why ≠ 0 then (emp, r) else
  match r.l with
  | [] => (emp, r.fail r.e 3)
  | t :: _ => if t.kind = k then (⟨t.text.toArray⟩, r.drop1) else (emp, r.fail t.col 2)
def Rd.is (r : Rd) (k : Int) : Bool :=
  decide (r.why = 0) && match r.l with | [] => false | t :: _ => decide (t.kind = k)
theorem take_why (r : Rd) (k : Int) (h : r.why ≠ 0) : r.take k = (emp, r) := if_pos h
theorem take_nil (e p k : Int) : (Rd.mk [] e p 0).take k = (emp, ⟨[], e, e, 3⟩) := rfl
theorem take_no (t : Tok) (l : List Tok) (e p k : Int) (h : ¬ t.kind = k) : (Rd.mk (t :: l) e p 0).take k = (emp, ⟨t :: l, e, t.col, 2⟩) := by
  simp only [Rd.take, ne_eq, not_true_eq_false, if_false, if_neg h]; rfl
theorem take_yes (t : Tok) (l : List Tok) (e p k : Int) (h : t.kind = k) : (Rd.mk (t :: l) e p 0).take k = (⟨t.text.toArray⟩, ⟨l, e, p, 0⟩) := by
  simp only [Rd.take, ne_eq, not_true_eq_false, if_false, if_pos h]; rfl

theorem tk_head {w : World} {b off : Nat} {t : Tok} {l : List Tok} (h : ∀ j u, ((t :: l).flatMap Tok.cells)[j]? = some u → w.cell? ⟨b, off + j, none⟩ = some u) :
    w.cell? ⟨b, off, none⟩ = some (.int .i64 t.kind) ∧ w.cell? ⟨b, off + 1, none⟩ = some (.string ⟨t.text.toArray⟩) ∧ w.cell? ⟨b, off + 2, none⟩ = some (.int .i64 t.col) :=
  ⟨h 0 _ rfl, h 1 _ rfl, h 2 _ rfl⟩
theorem Sl.tail {w : World} {b off cap : Nat} {t : Tok} {l : List Tok} (hl : (t :: l).length ≤ cap) (hm : cap ≤ 9223372036854775807) (hlt : b < w.heap.size)
    (h : ∀ j u, ((t :: l).flatMap Tok.cells)[j]? = some u → w.cell? ⟨b, off + j, none⟩ = some u) : Sl w 3 (.slice (some ⟨b, off + 3, none⟩) l.length (cap - 1)) l.length (l.flatMap Tok.cells) := by
  simp only [List.length_cons] at hl
  refine ⟨flat_len _ _ Tok.cells_len l, by simp only [maxLen]; omega, .inr ⟨b, off + 3, cap - 1, rfl, by omega, by simp only [maxLen]; omega, hlt, fun j u hu => ?_⟩⟩
  have := h (j + 3) u (by rw [List.flatMap_cons, List.getElem?_append_right (by rw [Tok.cells_len]; omega), Tok.cells_len]; simpa using hu)
  rwa [show off + 3 + j = off + (j + 3) by omega]

set_option maxRecDepth 100000 in
set_option maxHeartbeats 1000000 in
theorem read_take (r : Rd) (w0 w : World) (g : Nat) (k : Int) (h : RdAt w0 w g r) :
    Calls Tryd.prog 29 #[.pointer (some ⟨g, 0, none⟩), .int .i64 k] w fun e w' => e = .returned (.string (r.take k).1) ∧ RdAt w0 w' g (r.take k).2 ∧ w.grownBy w' (some g) := by
  have H := Lib.hid h
  obtain ⟨hlow, hbel, lv, hs, hblk⟩ := h
  obtain ⟨l, e, p, why⟩ := r
  have hg := hblk.2.2
  have c0 := hblk.cell 0 lv rfl
  have c1 := hblk.cell 1 (.int .i64 e) rfl
  have c2 := hblk.cell 2 (.int .i64 p) rfl
  have c3 := hblk.cell 3 (.int .i64 why) rfl
  have f0 := hblk.2.1
  by_cases hw : why = 0
  · subst hw
    have hsz := hbel.size
    have HS := Lib.hid hs
    have HB := Lib.hid hblk
    have HBE := Lib.hid hbel
    cases l with
    | nil =>
      have E := Lib.hid (take_nil e p k)
      obtain ⟨a, cap, rfl⟩ := hs.form
      clear hs hblk hbel
      go_enter Tryd.func29, Tryd.ntmps29
      go_wp2
      go_ret
      rw [E.out]
      exact ⟨rfl, ⟨hlow, (HBE.out.setCell hlow _).setCell hlow _, _, HS.out, ((HB.out.set 3 _ (by simp)).set 2 _ (by simp))⟩, gb_setCell (gb_setCell (World.grownBy.refl _ _) _) _⟩
    | cons t tl =>
      obtain ⟨b, off, cap, rfl, hc, hm, hlt, hx⟩ := hs.pos (by simp)
      obtain ⟨t0, t1, t2⟩ := tk_head (Sl.cells_later hbel hlt hx)
      have HX := Lib.hid hx
      have hbg : ¬ b = g := by omega
      have hbw : b < w.heap.size := by omega
      by_cases hk : t.kind = k
      · have E := Lib.hid (take_yes t tl e p k hk)
        have d1 : (t.kind != k) = false := by simp [hk]
        have HL := Lib.hid hc
        have hlen : (t :: tl).length = tl.length + 1 := rfl
        clear hs hblk hbel hx hk
        go_enter Tryd.func29, Tryd.ntmps29
        go_wp2
        · go_ret
          rw [E.out]
          refine ⟨rfl, ⟨hlow, ?_, _, ?_, ((HB.out.set 0 _ (by simp)).alloc _)⟩, gb_alloc (gb_setCell (World.grownBy.refl _ _) _) _⟩
          · exact (HBE.out.setCell hlow _).alloc (by simpa [World.setCell] using hsz) _
          · obtain rfl : tl = [] := List.eq_nil_of_length_eq_zero (by have := HL.out; simp at this; omega)
            exact ⟨rfl, by simp [maxLen], .inr ⟨b, off, 0, rfl, Nat.le_refl _, by simp [maxLen], hlt, fun j u hu => by simp at hu⟩⟩
        · go_ret
          rw [E.out]
          refine ⟨rfl, ⟨hlow, ?_, _, ?_, ((HB.out.set 0 _ (by simp)).alloc _)⟩, gb_alloc (gb_setCell (World.grownBy.refl _ _) _) _⟩
          · exact (HBE.out.setCell hlow _).alloc (by simpa [World.setCell] using hsz) _
          · exact Sl.tail HL.out hm hlt HX.out
      · have E := Lib.hid (take_no t tl e p k hk)
        have d1 : (t.kind != k) = true := by simp [hk]
        clear hs hblk hbel hx hk
        go_enter Tryd.func29, Tryd.ntmps29
        go_wp2
        go_ret
        rw [E.out]
        exact ⟨rfl, ⟨hlow, (HBE.out.setCell hlow _).setCell hlow _, _, HS.out, ((HB.out.set 3 _ (by simp)).set 2 _ (by simp))⟩, gb_setCell (gb_setCell (World.grownBy.refl _ _) _) _⟩
  · have d : (why != 0) = true := by simp [hw]
    have E := Lib.hid (take_why ⟨l, e, p, why⟩ k hw)
    clear hw hs hblk hbel
    go_enter Tryd.func29, Tryd.ntmps29
    go_wp2
    go_ret
    rw [E.out]
    exact ⟨rfl, H.out, World.grownBy.refl _ _⟩
theorem is_why (r : Rd) (k : Int) (h : ¬ r.why = 0) : r.is k = false := by simp [Rd.is, h]
theorem is_nil (e p k : Int) : (Rd.mk [] e p 0).is k = false := rfl
theorem is_cons (t : Tok) (l : List Tok) (e p k : Int) : (Rd.mk (t :: l) e p 0).is k = (t.kind == k) := by simp [Rd.is]; try rfl
set_option maxRecDepth 100000 in
set_option maxHeartbeats 1000000 in
theorem read_is (r : Rd) (w0 w : World) (g : Nat) (k : Int) (h : RdAt w0 w g r) :
    Calls Tryd.prog 47 #[.pointer (some ⟨g, 0, none⟩), .int .i64 k] w fun e w' => e = .returned (.bool (r.is k)) ∧ w = w' := by
  obtain ⟨hlow, hbel, lv, hs, hblk⟩ := h
  obtain ⟨l, e, p, why⟩ := r
  have hg := hblk.2.2
  have c0 := hblk.cell 0 lv rfl
  have c3 := hblk.cell 3 (.int .i64 why) rfl
  have f0 := hblk.2.1
  by_cases hw : why = 0
  · subst hw
    have hsz := hbel.size
    cases l with
    | nil =>
      have E := Lib.hid (is_nil e p k)
      obtain ⟨a, cap, rfl⟩ := hs.form
      clear hs hblk hbel
      go_enter Tryd.func47, Tryd.ntmps47
      go_wp2
      go_ret
      exact ⟨ret_b (by rw [E.out]), rfl⟩
    | cons t tl =>
      obtain ⟨b, off, cap, rfl, hc, hm, hlt, hx⟩ := hs.pos (by simp)
      obtain ⟨t0, t1, t2⟩ := tk_head (Sl.cells_later hbel hlt hx)
      have E := Lib.hid (is_cons t tl e p k)
      clear hs hblk hbel hx
      have d1 : decide ((0 : Int) < (tl.length : Int) + 1) = true := by (rw [decide_eq_true_iff]; omega)
      go_enter Tryd.func47, Tryd.ntmps47
      go_wp2
      go_ret
      exact ⟨ret_b (by rw [E.out]), rfl⟩
  · have d : (why == 0) = false := by simp [hw]
    have E := Lib.hid (is_why ⟨l, e, p, why⟩ k hw)
    clear hw hs hblk hbel
    go_enter Tryd.func47, Tryd.ntmps47
    go_wp2
    go_ret
    exact ⟨ret_b (by rw [E.out]), rfl⟩
end Go.Proofs.YtmpanikeeeoikaaDoor
