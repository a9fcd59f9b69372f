/- Policies in memory, and whether they are light. -/
import Derived.Test.YtmpanikeeeoikaaStMay
import Derived.Test.YtmpanikeeeoikaaStUnion
import Derived.Deep.AppendLies
namespace Go.Proofs.Ytmpanikeeeoikaa
open Go.RowKit Go.Shelf

def maxN : Nat := 9223372036854775807
def strs (l : List ByteArray) : List Value := l.map .string
theorem strs_get {l : List ByteArray} {k : Nat} (hk : k < l.length) : (strs l)[k]? = some (.string l[k]) := by simp [strs, hk]

/-- Some bool comes back. -/
def AnyB (e : Ending) : Prop := ∃ b, e = .returned (.bool b)
/-- Some bool comes back; if it is true there are at most 40 texts. -/
def LightS (l : List ByteArray) (e : Ending) : Prop := ∃ b, e = .returned (.bool b) ∧ (b = true → l.length ≤ 40)
set_option maxHeartbeats 1000000 in
theorem law1_Light (va : Value) (l : List ByteArray) (w : World) (ha : SlA w 1 va l.length (strs l)) (hl : ∀ s ∈ l, s.size ≤ 9223372036854775807) :
    Calls Try.prog 54 #[va] w fun e w' => LightS l e ∧ w' = w := by
  have HA := Lib.hid ha
  have HL := Lib.hid hl
  have hmax := ha.max
  obtain ⟨ao, cap, hva⟩ := ha.form
  subst hva
  clear ha hl
  go_enter Try.func54, Try.ntmps54
  by_cases h40 : 40 < l.length
  · have d : decide ((40 : Int) < (l.length : Int)) = true := by (rw [decide_eq_true_iff]; omega)
    go_wp2
    go_ret
    exact ⟨⟨false, rfl, fun h => by cases h⟩, rfl⟩
  have d : decide ((40 : Int) < (l.length : Int)) = false := by (rw [decide_eq_false_iff_not]; omega)
  go_wp2
  go_loop [10] (fun i => ∃ k : Nat, k ≤ l.length ∧ i = .int .i64 k) (fun i => l.length - (intOf i).toNat)
  case atStart => exact ⟨0, by omega, rfl⟩
  case round =>
    obtain ⟨k, hk, rfl⟩ := hrel
    by_cases hlt : k < l.length
    · obtain ⟨b1, o1, c1, he1, hc1, hm1, hb1, hx1⟩ := HA.out.pos (by omega)
      simp only [Value.slice.injEq, true_and] at he1
      obtain ⟨rfl, rfl⟩ := he1
      have p0 := hx1 k _ (strs_get hlt)
      have hsz := HL.out l[k] (List.getElem_mem hlt)
      clear hx1
      by_cases h : 40 < l[k].size
      · have d1 : decide ((40 : Int) < (l[k].size : Int)) = true := by (rw [decide_eq_true_iff]; omega)
        clear h
        go_wp2
        go_ret
        exact ⟨⟨false, rfl, fun h => by cases h⟩, rfl⟩
      · have d1 : decide ((40 : Int) < (l[k].size : Int)) = false := by (rw [decide_eq_false_iff_not]; omega)
        clear h
        go_wp2
        exact ⟨⟨k + 1, by omega, by go_num⟩, by simp [intOf]; omega⟩
    · go_wp2
      go_ret
      exact ⟨⟨true, rfl, fun _ => by omega⟩, rfl⟩

/-- A query: its kind, its roles, and the slice of its principals. -/
structure Qv where
  k : Int
  a : Rl
  b : Rl
  w : Value
instance : Inhabited Qv := ⟨⟨0, noR, noR, .slice none 0 0⟩⟩
def Qv.cells (q : Qv) : List Value := [.int .i64 q.k, .string q.a.o, .string q.a.n, .string q.b.o, .string q.b.n, q.w]
theorem Qv.cells_len (q : Qv) : q.cells.length = 6 := rfl
abbrev qv (q : Qv) : Value := .agg #[.int .i64 q.k, .string q.a.o, .string q.a.n, .string q.b.o, .string q.b.n, q.w]
def Qv.ok (q : Qv) (w : World) : Prop := q.a.le 9223372036854775807 ∧ q.b.le 9223372036854775807 ∧ ∃ ss : List ByteArray, SlA w 1 q.w ss.length (strs ss) ∧ ∀ s ∈ ss, s.size ≤ 9223372036854775807
/-- .. and of at most n principals. -/
def Qv.okN (q : Qv) (n : Nat) (w : World) : Prop := q.a.le 9223372036854775807 ∧ q.b.le 9223372036854775807 ∧ ∃ ss : List ByteArray, SlA w 1 q.w ss.length (strs ss) ∧ ss.length ≤ n ∧ ∀ s ∈ ss, s.size ≤ 9223372036854775807
theorem Qv.okN.below {q : Qv} {n : Nat} {w w' : World} (h : q.okN n w) (hb : Below w.heap.size w w') : q.okN n w' := by
  obtain ⟨h1, h2, ss, h3, h5, h4⟩ := h
  exact ⟨h1, h2, ss, h3.below hb, h5, h4⟩
/-- Some bool comes back; if it is true the query names at most 40 principals. -/
def LightQ (q : Qv) (w : World) (e : Ending) : Prop := ∃ b, e = .returned (.bool b) ∧ (b = true → q.okN 40 w)
theorem Qv.ok.below {q : Qv} {w w' : World} (h : q.ok w) (hb : Below w.heap.size w w') : q.ok w' := by
  obtain ⟨h1, h2, ss, h3, h4⟩ := h
  exact ⟨h1, h2, ss, h3.below hb, h4⟩
theorem q_cell {w : World} {b off : Nat} {l : List Qv} (h : ∀ j u, (l.flatMap Qv.cells)[j]? = some u → w.cell? ⟨b, off + j, none⟩ = some u) (k : Nat) (hk : k < l.length) :
    w.cell? ⟨b, off + k * 6, none⟩ = some (.int .i64 l[k].k) ∧ w.cell? ⟨b, off + k * 6 + 1, none⟩ = some (.string l[k].a.o) ∧ w.cell? ⟨b, off + k * 6 + 2, none⟩ = some (.string l[k].a.n) ∧ w.cell? ⟨b, off + k * 6 + 3, none⟩ = some (.string l[k].b.o) ∧ w.cell? ⟨b, off + k * 6 + 4, none⟩ = some (.string l[k].b.n) ∧ w.cell? ⟨b, off + k * 6 + 5, none⟩ = some l[k].w := by
  have hx : l[k]? = some l[k] := List.getElem?_eq_getElem hk
  have h0 := h _ _ ((flat_get Qv.cells 6 Qv.cells_len l k 0 (by omega) _ hx).trans rfl)
  have h1 := h _ _ ((flat_get Qv.cells 6 Qv.cells_len l k 1 (by omega) _ hx).trans rfl)
  have h2 := h _ _ ((flat_get Qv.cells 6 Qv.cells_len l k 2 (by omega) _ hx).trans rfl)
  have h3 := h _ _ ((flat_get Qv.cells 6 Qv.cells_len l k 3 (by omega) _ hx).trans rfl)
  have h4 := h _ _ ((flat_get Qv.cells 6 Qv.cells_len l k 4 (by omega) _ hx).trans rfl)
  have h5 := h _ _ ((flat_get Qv.cells 6 Qv.cells_len l k 5 (by omega) _ hx).trans rfl)
  exact ⟨h0, h1, h2, h3, h4, h5⟩

set_option maxRecDepth 100000 in
set_option maxHeartbeats 1000000 in
theorem law4_Light (q : Qv) (w : World) (hq : q.ok w) : Calls Try.prog 31 #[qv q] w fun e w' => LightQ q w e ∧ Below w.heap.size w w' := by
  obtain ⟨ha, hb, ss, hs, hl⟩ := hq
  obtain ⟨k, ⟨x1, x2⟩, ⟨x3, x4⟩, wv⟩ := q
  have HS := Lib.hid (fun W h => law1_Light wv ss W h hl)
  have HQ := Lib.hid (fun (h : ss.length ≤ 40) => show (⟨k, ⟨x1, x2⟩, ⟨x3, x4⟩, wv⟩ : Qv).okN 40 w from ⟨ha, hb, ss, hs, h, hl⟩)
  have HW := Lib.hid hs
  have H4 := Lib.hid (fun W h => law1_Light (.slice (some ⟨w.heap.size + 1, 0, none⟩) 4 4) [x1, x2, x3, x4] W h (by
    intro s hs; simp at hs; rcases hs with rfl | rfl | rfl | rfl
    · exact ha.1
    · exact ha.2
    · exact hb.1
    · exact hb.2))
  obtain ⟨wo, wc, rfl⟩ := hs.form
  clear ha hb hl hs
  have HB := Lib.hid ((Below.refl _ w).alloc (Nat.le_refl _) (.cells #[.int .i64 k, .string x1, .string x2, .string x3, .string x4, .slice wo ss.length wc] 51))
  have HB2 := Lib.hid (HB.out.alloc HB.out.size (.cells #[.string x1, .string x2, .string x3, .string x4] 9))
  have S4 := Lib.hid (Sl.new (w.alloc (.cells #[.int .i64 k, .string x1, .string x2, .string x3, .string x4, .slice wo ss.length wc] 51)) [.string x1, .string x2, .string x3, .string x4] 9 1 4 (w.heap.size + 1) (by simp) rfl (by simp [maxLen]))
  go_enter Try.func31, Try.ntmps31
  go_wp2_with fail
  refine (HS.out _ (HW.out.below HB.out)).mono ?_
  rintro e w1 ⟨⟨b1, rfl, hb1⟩, rfl⟩
  have HB1 := Lib.hid hb1
  clear hb1
  cases b1 with
  | false =>
    go_wp2
    go_ret
    exact ⟨⟨false, rfl, fun h => by cases h⟩, HB.out⟩
  | true =>
    go_wp2_with fail
    refine (H4.out _ S4.out.a).mono ?_
    rintro e w1 ⟨⟨b2, rfl, -⟩, rfl⟩
    go_wp2
    go_ret
    exact ⟨⟨b2, rfl, fun _ => HQ.out (HB1.out (by first | rfl | trivial))⟩, HB2.out⟩
end Go.Proofs.Ytmpanikeeeoikaa
