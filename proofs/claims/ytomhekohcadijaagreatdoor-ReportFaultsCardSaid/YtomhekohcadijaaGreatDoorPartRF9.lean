/- The reference's order of statements, and rows of statements: Before, Has, Same. Rows of statements: the reference's Same and Has. -/
import Derived.Test.YtomhekohcadijaaGreatDoorPartRF8
namespace Go.Proofs.YtomhekohcadijaaGreatDoor
open Go.RowKit Go.Shelf

theorem str_less (a b : ByteArray) : decide (cmpS a b < 0) = Op.bytesLess a.toList b.toList := by
  rw [toList_bl, toList_bl, cmp_less]; rfl
section
variable {s t : St}
end

end Go.Proofs.YtomhekohcadijaaGreatDoor
namespace Go.Proofs.YtomhekohcadijaaGreatDoor
open Go.RowKit Go.Shelf

instance : Inhabited St := ⟨noS⟩
def SlA (w : World) (size : Nat) (v : Value) (n : Nat) (xs : List Value) : Prop := Sl w size v n xs ∨ ((∃ a c, v = .slice (some a) 0 c) ∧ n = 0 ∧ xs = [])
section
variable {w w' : World} {size n : Nat} {v : Value} {xs : List Value}
theorem Sl.a (h : Sl w size v n xs) : SlA w size v n xs := .inl h
theorem SlA.max (h : SlA w size v n xs) : n ≤ 9223372036854775807 := by
  rcases h with h | ⟨_, rfl, _⟩
  · exact h.max
  · exact Nat.zero_le _
theorem SlA.below (h : SlA w size v n xs) (hb : Below w.heap.size w w') : SlA w' size v n xs := by
  rcases h with h | h
  · exact .inl (h.below hb)
  · exact .inr h
theorem SlA.pos (h : SlA w size v n xs) (h0 : 0 < n) :
    ∃ b off cap, v = .slice (some ⟨b, off, none⟩) n cap ∧ n ≤ cap ∧ cap ≤ 9223372036854775807 ∧ b < w.heap.size ∧ ∀ j u, xs[j]? = some u → w.cell? ⟨b, off + j, none⟩ = some u := by
  rcases h with h | ⟨_, rfl, _⟩
  · exact h.pos h0
  · omega
theorem SlA.form (h : SlA w size v n xs) : ∃ (a : Option Addr) (cap : Nat), v = .slice a n cap := by
  rcases h with h | ⟨⟨a, c, rfl⟩, rfl, _⟩
  · exact h.form
  · exact ⟨_, _, rfl⟩
end
def hasS (l : List St) (s : St) : Bool := l.any (fun x => eqSt x s)
theorem st_cell {w : World} {b off : Nat} {l : List St} (h : ∀ j u, (l.flatMap St.cells)[j]? = some u → w.cell? ⟨b, off + j, none⟩ = some u) (k : Nat) (hk : k < l.length) :
    w.cell? ⟨b, off + k * 9, none⟩ = some (.int .i64 l[k].k) ∧ w.cell? ⟨b, off + k * 9 + 1, none⟩ = some (.string l[k].h.o) ∧ w.cell? ⟨b, off + k * 9 + 2, none⟩ = some (.string l[k].h.n) ∧ w.cell? ⟨b, off + k * 9 + 3, none⟩ = some (.string l[k].who) ∧ w.cell? ⟨b, off + k * 9 + 4, none⟩ = some (.string l[k].a.o) ∧ w.cell? ⟨b, off + k * 9 + 5, none⟩ = some (.string l[k].a.n) ∧ w.cell? ⟨b, off + k * 9 + 6, none⟩ = some (.string l[k].b.o) ∧ w.cell? ⟨b, off + k * 9 + 7, none⟩ = some (.string l[k].b.n) ∧ w.cell? ⟨b, off + k * 9 + 8, none⟩ = some (.string l[k].via) := by
  have hx : l[k]? = some l[k] := List.getElem?_eq_getElem hk
  have h0 := h _ _ ((flat_get St.cells 9 St.cells_len l k 0 (by omega) _ hx).trans rfl)
  have h1 := h _ _ ((flat_get St.cells 9 St.cells_len l k 1 (by omega) _ hx).trans rfl)
  have h2 := h _ _ ((flat_get St.cells 9 St.cells_len l k 2 (by omega) _ hx).trans rfl)
  have h3 := h _ _ ((flat_get St.cells 9 St.cells_len l k 3 (by omega) _ hx).trans rfl)
  have h4 := h _ _ ((flat_get St.cells 9 St.cells_len l k 4 (by omega) _ hx).trans rfl)
  have h5 := h _ _ ((flat_get St.cells 9 St.cells_len l k 5 (by omega) _ hx).trans rfl)
  have h6 := h _ _ ((flat_get St.cells 9 St.cells_len l k 6 (by omega) _ hx).trans rfl)
  have h7 := h _ _ ((flat_get St.cells 9 St.cells_len l k 7 (by omega) _ hx).trans rfl)
  have h8 := h _ _ ((flat_get St.cells 9 St.cells_len l k 8 (by omega) _ hx).trans rfl)
  exact ⟨h0, h1, h2, h3, h4, h5, h6, h7, h8⟩
theorem same_len {l m : List St} (h : ¬ l.length = m.length) : decide (l = m) = false := decide_eq_false (fun e => h (by rw [e]))
theorem take_more {l m : List St} {k : Nat} (h : l.take k = m.take k) (hl : k < l.length) (hm : k < m.length) (e : l[k] = m[k]) : l.take (k + 1) = m.take (k + 1) := by
  rw [List.take_succ_eq_append_getElem hl, List.take_succ_eq_append_getElem hm, h, e]
theorem same_end {l m : List St} {k : Nat} (h : l.take k = m.take k) (hl : ¬ k < l.length) (hm : ¬ k < m.length) : decide (l = m) = true := by
  rw [List.take_of_length_le (by omega), List.take_of_length_le (by omega)] at h
  exact decide_eq_true h
theorem same_no {l m : List St} {k : Nat} (hl : k < l.length) (hm : k < m.length) (e : ¬ l[k] = m[k]) : decide (l = m) = false := decide_eq_false (fun h => e (by subst h; rfl))

set_option maxRecDepth 100000 in
set_option maxHeartbeats 2000000 in
theorem ref3_Same (va vb : Value) (l m : List St) (w : World) (ha : SlA w 9 va l.length (l.flatMap St.cells)) (hb : SlA w 9 vb m.length (m.flatMap St.cells)) :
    Calls Tryz.prog 15 #[va, vb] w fun e w' => e = .returned (.bool (decide (l = m))) ∧ ∃ n, w' = w.drewN n := by
  have hmax := ha.max
  have hmax2 := hb.max
  by_cases hl : l.length = m.length
  case neg =>
    have R := Lib.hid (same_len hl)
    have d : ((l.length : Int) != (m.length : Int)) = true := by rw [bne_iff_ne]; omega
    obtain ⟨a1, c1, rfl⟩ := ha.form
    obtain ⟨a2, c2, rfl⟩ := hb.form
    clear ha hb hl
    go_enter Tryz.func15, Tryz.ntmps15
    go_wp2
    go_ret
    exact ⟨ret_b R.out.symm, 0, rfl⟩
  have hNe := stmt_neq'
  have hne : ((l.length : Int) != (m.length : Int)) = false := by rw [hl]; simp
  by_cases h0 : 0 < l.length
  · obtain ⟨b1, o1, c1, rfl, hc1, hm1, _, hx1⟩ := ha.pos h0
    obtain ⟨b2, o2, c2, rfl, hc2, hm2, _, hx2⟩ := hb.pos (by omega)
    have HX1 := Lib.hid hx1
    have HX2 := Lib.hid hx2
    have HL := Lib.hid hl
    clear ha hb hx1 hx2 hl
    go_enter Tryz.func15, Tryz.ntmps15
    go_wp2
    go_loopw [13] (fun i wr => ∃ k n : Nat, k ≤ l.length ∧ i = .int .i64 k ∧ wr = w.drewN n ∧ Hid (l.take k = m.take k)) (fun i _ => l.length - (intOf i).toNat)
    case atStart => exact ⟨0, 0, by omega, rfl, rfl, Lib.hid (by simp)⟩
    case round =>
      obtain ⟨k, n, hk, rfl, rfl, HT⟩ := hrel
      by_cases hlt : k < l.length
      · have hlt2 : k < m.length := by have := HL.out; omega
        obtain ⟨p0, p1, p2, p3, p4, p5, p6, p7, p8⟩ := st_cell HX1.out k hlt
        obtain ⟨q0, q1, q2, q3, q4, q5, q6, q7, q8⟩ := st_cell HX2.out k hlt2
        by_cases he : l[k] = m[k]
        · have HN := Lib.hid (take_more HT.out hlt hlt2 he)
          have d1 : (!eqSt ⟨l[k].k, ⟨l[k].h.o, l[k].h.n⟩, l[k].who, ⟨l[k].a.o, l[k].a.n⟩, ⟨l[k].b.o, l[k].b.n⟩, l[k].via⟩ ⟨m[k].k, ⟨m[k].h.o, m[k].h.n⟩, m[k].who, ⟨m[k].a.o, m[k].a.n⟩, ⟨m[k].b.o, m[k].b.n⟩, m[k].via⟩) = false := by
            have := congrArg (!·) (decide_eq_true he); exact this
          clear he
          go_wp2_with fail
          go_big_quiet (fail)
          go_wp2
          exact ⟨⟨k + 1, n + nq, by omega, by go_num, rfl, HN⟩, by simp [intOf]; omega⟩
        · have R := Lib.hid (same_no hlt hlt2 he)
          have d1 : (!eqSt ⟨l[k].k, ⟨l[k].h.o, l[k].h.n⟩, l[k].who, ⟨l[k].a.o, l[k].a.n⟩, ⟨l[k].b.o, l[k].b.n⟩, l[k].via⟩ ⟨m[k].k, ⟨m[k].h.o, m[k].h.n⟩, m[k].who, ⟨m[k].a.o, m[k].a.n⟩, ⟨m[k].b.o, m[k].b.n⟩, m[k].via⟩) = true := by
            have := congrArg (!·) (decide_eq_false he); exact this
          clear he
          go_wp2_with fail
          go_big_quiet (fail)
          go_wp2
          go_ret
          exact ⟨ret_b R.out.symm, n + nq, by simp [World.drewN, Nat.add_assoc]⟩
      · have R := Lib.hid (same_end HT.out hlt (by have := HL.out; omega))
        go_wp2
        go_ret
        exact ⟨ret_b R.out.symm, n, rfl⟩
  · have R := Lib.hid (same_end (l := l) (m := m) (k := 0) (by simp) h0 (by omega))
    obtain ⟨a1, c1, rfl⟩ := ha.form
    obtain ⟨a2, c2, rfl⟩ := hb.form
    have d0 : l.length = 0 := by omega
    have d02 : m.length = 0 := by omega
    clear ha hb h0 hmax hl hmax2
    go_enter Tryz.func15, Tryz.ntmps15
    go_wp2
    go_loopw [13] (fun i wr => i = .int .i64 0 ∧ wr = w) (fun _ _ => 0)
    case atStart => exact ⟨rfl, rfl⟩
    case round =>
      obtain ⟨rfl, rfl⟩ := hrel
      go_wp2
      go_ret
      exact ⟨ret_b R.out.symm, 0, rfl⟩

theorem has_yes {l : List St} {s : St} {k : Nat} (hl : k < l.length) (e : l[k] = s) : hasS l s = true := by
  unfold hasS; rw [List.any_eq_true]; exact ⟨l[k], List.getElem_mem hl, by simp [eqSt, e]⟩
theorem has_end {l : List St} {s : St} {k : Nat} (hk : ¬ k < l.length) (h : ∀ j (hj : j < l.length), j < k → ¬ l[j] = s) : hasS l s = false := by
  unfold hasS; rw [List.any_eq_false]
  intro x hx
  obtain ⟨j, hj, rfl⟩ := List.getElem_of_mem hx
  simp [eqSt, h j hj (by omega)]
end Go.Proofs.YtomhekohcadijaaGreatDoor
