/- Rows of statements: the reference's Same and Has. Plain laws on worlds in which at most one block has been written. -/
import Derived.Test.YtmpanikeeeoikaaGreatPart3
namespace Go.Proofs.YtmpanikeeeoikaaGreat
open Go.RowKit Go.Shelf

instance : Inhabited St := ⟨noS⟩
/-- A slice among the arguments: as 'Sl', or one of no element and no cell, wherever it may lie. -/
def SlA (w : World) (size : Nat) (v : Value) (n : Nat) (xs : List Value) : Prop := Sl w size v n xs ∨ ((∃ a c, v = .slice (some a) 0 c) ∧ n = 0 ∧ xs = [])
section
variable {w w' : World} {size n : Nat} {v : Value} {xs : List Value}
theorem Sl.a (h : Sl w size v n xs) : SlA w size v n xs := .inl h
theorem SlA.max (h : SlA w size v n xs) : n ≤ 9223372036854775807 := by
  rcases h with h | ⟨_, rfl, _⟩
  · exact h.max
  · exact Nat.zero_le _
theorem SlA.below (h : SlA w size v n xs) (hb : Below w.heap.size w w') : SlA w' size v n xs := by
  rcases h with h | h
  · exact .inl (h.below hb)
  · exact .inr h
theorem SlA.pos (h : SlA w size v n xs) (h0 : 0 < n) :
    ∃ b off cap, v = .slice (some ⟨b, off, none⟩) n cap ∧ n ≤ cap ∧ cap ≤ 9223372036854775807 ∧ b < w.heap.size ∧ ∀ j u, xs[j]? = some u → w.cell? ⟨b, off + j, none⟩ = some u := by
  rcases h with h | ⟨_, rfl, _⟩
  · exact h.pos h0
  · omega
theorem SlA.form (h : SlA w size v n xs) : ∃ (a : Option Addr) (cap : Nat), v = .slice a n cap := by
  rcases h with h | ⟨⟨a, c, rfl⟩, rfl, _⟩
  · exact h.form
  · exact ⟨_, _, rfl⟩
end
def hasS (l : List St) (s : St) : Bool := l.any (fun x => eqSt x s)
theorem st_cell {w : World} {b off : Nat} {l : List St} (h : ∀ j u, (l.flatMap St.cells)[j]? = some u → w.cell? ⟨b, off + j, none⟩ = some u) (k : Nat) (hk : k < l.length) :
    w.cell? ⟨b, off + k * 9, none⟩ = some (.int .i64 l[k].k) ∧ w.cell? ⟨b, off + k * 9 + 1, none⟩ = some (.string l[k].h.o) ∧ w.cell? ⟨b, off + k * 9 + 2, none⟩ = some (.string l[k].h.n) ∧ w.cell? ⟨b, off + k * 9 + 3, none⟩ = some (.string l[k].who) ∧ w.cell? ⟨b, off + k * 9 + 4, none⟩ = some (.string l[k].a.o) ∧ w.cell? ⟨b, off + k * 9 + 5, none⟩ = some (.string l[k].a.n) ∧ w.cell? ⟨b, off + k * 9 + 6, none⟩ = some (.string l[k].b.o) ∧ w.cell? ⟨b, off + k * 9 + 7, none⟩ = some (.string l[k].b.n) ∧ w.cell? ⟨b, off + k * 9 + 8, none⟩ = some (.string l[k].via) := by
  have hx : l[k]? = some l[k] := List.getElem?_eq_getElem hk
  have h0 := h _ _ ((flat_get St.cells 9 St.cells_len l k 0 (by omega) _ hx).trans rfl)
  have h1 := h _ _ ((flat_get St.cells 9 St.cells_len l k 1 (by omega) _ hx).trans rfl)
  have h2 := h _ _ ((flat_get St.cells 9 St.cells_len l k 2 (by omega) _ hx).trans rfl)
  have h3 := h _ _ ((flat_get St.cells 9 St.cells_len l k 3 (by omega) _ hx).trans rfl)
  have h4 := h _ _ ((flat_get St.cells 9 St.cells_len l k 4 (by omega) _ hx).trans rfl)
  have h5 := h _ _ ((flat_get St.cells 9 St.cells_len l k 5 (by omega) _ hx).trans rfl)
  have h6 := h _ _ ((flat_get St.cells 9 St.cells_len l k 6 (by omega) _ hx).trans rfl)
  have h7 := h _ _ ((flat_get St.cells 9 St.cells_len l k 7 (by omega) _ hx).trans rfl)
  have h8 := h _ _ ((flat_get St.cells 9 St.cells_len l k 8 (by omega) _ hx).trans rfl)
  exact ⟨h0, h1, h2, h3, h4, h5, h6, h7, h8⟩
theorem same_len {l m : List St} (h : ¬ l.length = m.length) : decide (l = m) = false := decide_eq_false (fun e => h (by rw [e]))
theorem take_more {l m : List St} {k : Nat} (h : l.take k = m.take k) (hl : k < l.length) (hm : k < m.length) (e : l[k] = m[k]) : l.take (k + 1) = m.take (k + 1) := by
  rw [List.take_succ_eq_append_getElem hl, List.take_succ_eq_append_getElem hm, h, e]
theorem same_end {l m : List St} {k : Nat} (h : l.take k = m.take k) (hl : ¬ k < l.length) (hm : ¬ k < m.length) : decide (l = m) = true := by
  rw [List.take_of_length_le (by omega), List.take_of_length_le (by omega)] at h
  exact decide_eq_true h
theorem same_no {l m : List St} {k : Nat} (hl : k < l.length) (hm : k < m.length) (e : ¬ l[k] = m[k]) : decide (l = m) = false := decide_eq_false (fun h => e (by subst h; rfl))

set_option maxRecDepth 100000 in
set_option maxHeartbeats 2000000 in
theorem ref3_Same (va vb : Value) (l m : List St) (w : World) (ha : SlA w 9 va l.length (l.flatMap St.cells)) (hb : SlA w 9 vb m.length (m.flatMap St.cells)) :
    Calls Tryz.prog 29 #[va, vb] w fun e w' => e = .returned (.bool (decide (l = m))) ∧ ∃ n, w' = w.drewN n := by
  have hmax := ha.max
  have hmax2 := hb.max
  by_cases hl : l.length = m.length
  case neg =>
    have R := Lib.hid (same_len hl)
    have d : ((l.length : Int) != (m.length : Int)) = true := by rw [bne_iff_ne]; omega
    obtain ⟨a1, c1, rfl⟩ := ha.form
    obtain ⟨a2, c2, rfl⟩ := hb.form
    clear ha hb hl
    go_enter Tryz.func29, Tryz.ntmps29
    go_wp2
    go_ret
    exact ⟨ret_b R.out.symm, 0, rfl⟩
  have hNe := stmt_neq'
  have hne : ((l.length : Int) != (m.length : Int)) = false := by rw [hl]; simp
  by_cases h0 : 0 < l.length
  · obtain ⟨b1, o1, c1, rfl, hc1, hm1, _, hx1⟩ := ha.pos h0
    obtain ⟨b2, o2, c2, rfl, hc2, hm2, _, hx2⟩ := hb.pos (by omega)
    have HX1 := Lib.hid hx1
    have HX2 := Lib.hid hx2
    have HL := Lib.hid hl
    clear ha hb hx1 hx2 hl
    go_enter Tryz.func29, Tryz.ntmps29
    go_wp2
    go_loopw [13] (fun i wr => ∃ k n : Nat, k ≤ l.length ∧ i = .int .i64 k ∧ wr = w.drewN n ∧ Hid (l.take k = m.take k)) (fun i _ => l.length - (intOf i).toNat)
    case atStart => exact ⟨0, 0, by omega, rfl, rfl, Lib.hid (by simp)⟩
    case round =>
      obtain ⟨k, n, hk, rfl, rfl, HT⟩ := hrel
      by_cases hlt : k < l.length
      · have hlt2 : k < m.length := by have := HL.out; omega
        obtain ⟨p0, p1, p2, p3, p4, p5, p6, p7, p8⟩ := st_cell HX1.out k hlt
        obtain ⟨q0, q1, q2, q3, q4, q5, q6, q7, q8⟩ := st_cell HX2.out k hlt2
        by_cases he : l[k] = m[k]
        · have HN := Lib.hid (take_more HT.out hlt hlt2 he)
          have d1 : (!eqSt ⟨l[k].k, ⟨l[k].h.o, l[k].h.n⟩, l[k].who, ⟨l[k].a.o, l[k].a.n⟩, ⟨l[k].b.o, l[k].b.n⟩, l[k].via⟩ ⟨m[k].k, ⟨m[k].h.o, m[k].h.n⟩, m[k].who, ⟨m[k].a.o, m[k].a.n⟩, ⟨m[k].b.o, m[k].b.n⟩, m[k].via⟩) = false := by
            have := congrArg (!·) (decide_eq_true he); exact this
          clear he
          go_wp2_with fail
          go_big_quiet (fail)
          go_wp2
          exact ⟨⟨k + 1, n + nq, by omega, by go_num, rfl, HN⟩, by simp [intOf]; omega⟩
        · have R := Lib.hid (same_no hlt hlt2 he)
          have d1 : (!eqSt ⟨l[k].k, ⟨l[k].h.o, l[k].h.n⟩, l[k].who, ⟨l[k].a.o, l[k].a.n⟩, ⟨l[k].b.o, l[k].b.n⟩, l[k].via⟩ ⟨m[k].k, ⟨m[k].h.o, m[k].h.n⟩, m[k].who, ⟨m[k].a.o, m[k].a.n⟩, ⟨m[k].b.o, m[k].b.n⟩, m[k].via⟩) = true := by
            have := congrArg (!·) (decide_eq_false he); exact this
          clear he
          go_wp2_with fail
          go_big_quiet (fail)
          go_wp2
          go_ret
          exact ⟨ret_b R.out.symm, n + nq, by simp [World.drewN, Nat.add_assoc]⟩
      · have R := Lib.hid (same_end HT.out hlt (by have := HL.out; omega))
        go_wp2
        go_ret
        exact ⟨ret_b R.out.symm, n, rfl⟩
  · have R := Lib.hid (same_end (l := l) (m := m) (k := 0) (by simp) h0 (by omega))
    obtain ⟨a1, c1, rfl⟩ := ha.form
    obtain ⟨a2, c2, rfl⟩ := hb.form
    have d0 : l.length = 0 := by omega
    have d02 : m.length = 0 := by omega
    clear ha hb h0 hmax hl hmax2
    go_enter Tryz.func29, Tryz.ntmps29
    go_wp2
    go_loopw [13] (fun i wr => i = .int .i64 0 ∧ wr = w) (fun _ _ => 0)
    case atStart => exact ⟨rfl, rfl⟩
    case round =>
      obtain ⟨rfl, rfl⟩ := hrel
      go_wp2
      go_ret
      exact ⟨ret_b R.out.symm, 0, rfl⟩

theorem has_yes {l : List St} {s : St} {k : Nat} (hl : k < l.length) (e : l[k] = s) : hasS l s = true := by
  unfold hasS; rw [List.any_eq_true]; exact ⟨l[k], List.getElem_mem hl, by simp [eqSt, e]⟩
theorem has_end {l : List St} {s : St} {k : Nat} (hk : ¬ k < l.length) (h : ∀ j (hj : j < l.length), j < k → ¬ l[j] = s) : hasS l s = false := by
  unfold hasS; rw [List.any_eq_false]
  intro x hx
  obtain ⟨j, hj, rfl⟩ := List.getElem_of_mem hx
  simp [eqSt, h j hj (by omega)]
set_option maxRecDepth 100000 in
set_option maxHeartbeats 2000000 in
theorem ref3_Has (va : Value) (l : List St) (s : St) (w : World) (ha : SlA w 9 va l.length (l.flatMap St.cells)) :
    Calls Tryz.prog 47 #[va, sv s] w fun e w' => e = .returned (.bool (hasS l s)) ∧ Below w.heap.size w w' := by
  have hmax := ha.max
  have hEq := stmt_eql'
  by_cases h0 : 0 < l.length
  · obtain ⟨b1, o1, c1, rfl, hc1, hm1, hb1, hx1⟩ := ha.pos h0
    have HX1 := Lib.hid hx1
    have HS := Lib.hid (fun k (hl : k < l.length) (e : l[k] = s) => has_yes hl e)
    have HE := Lib.hid (fun k (hk : ¬ k < l.length) h => has_end (l := l) (s := s) (k := k) hk h)
    have HD := Lib.hid (fun k (hl : k < l.length) => show (eqSt l[k] s = true ↔ l[k] = s) from decide_eq_true_iff)
    generalize hasS l s = res at HS HE ⊢
    clear ha hx1
    obtain ⟨ks, ⟨h1, h2⟩, who, ⟨a1, a2⟩, ⟨b1', b2'⟩, via⟩ := s
    go_enter Tryz.func47, Tryz.ntmps47
    go_wp2
    go_loopw [9] (fun i wr => ∃ k : Nat, k ≤ l.length ∧ i = .int .i64 k ∧ Below w.heap.size w wr ∧ Blk wr w.heap.size #[.int .i64 ks, .string h1, .string h2, .string who, .string a1, .string a2, .string b1', .string b2', .string via] ∧ Hid (∀ j (hj : j < l.length), j < k → ¬ l[j] = ⟨ks, ⟨h1, h2⟩, who, ⟨a1, a2⟩, ⟨b1', b2'⟩, via⟩)) (fun i _ => l.length - (intOf i).toNat)
    case atStart => exact ⟨0, by omega, rfl, (Below.refl _ _).alloc (Nat.le_refl _) _, Blk.new _ _ _, Lib.hid (fun _ _ h => absurd h (by omega))⟩
    case round =>
      obtain ⟨k, hk, rfl, hbw, hblk, HT⟩ := hrel
      have HBW := Lib.hid hbw
      have HBK := Lib.hid hblk
      have hz := hbw.size
      obtain ⟨cs, fs, zs⟩ := hblk
      by_cases hlt : k < l.length
      · obtain ⟨p0, p1, p2, p3, p4, p5, p6, p7, p8⟩ := st_cell (w := wr) (fun j u hu => (hbw.cell (p := ⟨b1, o1 + j, none⟩) hb1).trans (HX1.out j u hu)) k hlt
        have hb1' : b1 < wr.heap.size := Nat.lt_of_lt_of_le hb1 hz
        have hD := HD.out k hlt
        clear hbw
        cases he : eqSt l[k] ⟨ks, ⟨h1, h2⟩, who, ⟨a1, a2⟩, ⟨b1', b2'⟩, via⟩ with
        | true =>
          have R := Lib.hid (HS.out k hlt (hD.1 he))
          change eqSt ⟨l[k].k, ⟨l[k].h.o, l[k].h.n⟩, l[k].who, ⟨l[k].a.o, l[k].a.n⟩, ⟨l[k].b.o, l[k].b.n⟩, l[k].via⟩ _ = true at he
          clear hD
          go_wp2
          go_ret
          exact ⟨ret_b R.out.symm, HBW.out.alloc HBW.out.size _⟩
        | false =>
          have HN : Hid (∀ j (hj : j < l.length), j < k + 1 → ¬ l[j] = ⟨ks, ⟨h1, h2⟩, who, ⟨a1, a2⟩, ⟨b1', b2'⟩, via⟩) := Lib.hid (fun j hj hjk => by
            by_cases hjk' : j < k
            · exact HT.out j hj hjk'
            · obtain rfl : j = k := by omega
              intro e; rw [hD.2 e] at he; cases he)
          change eqSt ⟨l[k].k, ⟨l[k].h.o, l[k].h.n⟩, l[k].who, ⟨l[k].a.o, l[k].a.n⟩, ⟨l[k].b.o, l[k].b.n⟩, l[k].via⟩ _ = false at he
          clear hD
          go_wp2
          exact ⟨⟨k + 1, by omega, by go_num, HBW.out.alloc HBW.out.size _, HBK.out.alloc _, HN⟩, by simp [intOf]; omega⟩
      · have R := Lib.hid (HE.out k hlt HT.out)
        clear hbw
        go_wp2
        go_ret
        exact ⟨ret_b R.out.symm, HBW.out⟩
  · obtain ⟨a1, c1, rfl⟩ := ha.form
    obtain rfl : l = [] := List.eq_nil_of_length_eq_zero (by omega)
    clear ha h0 hmax
    obtain ⟨ks, ⟨h1, h2⟩, who, ⟨a1', a2'⟩, ⟨b1', b2'⟩, via⟩ := s
    go_enter Tryz.func47, Tryz.ntmps47
    go_wp2
    go_loopw [9] (fun i wr => i = .int .i64 0 ∧ Below w.heap.size w wr) (fun _ _ => 0)
    case atStart => exact ⟨rfl, (Below.refl _ _).alloc (Nat.le_refl _) _⟩
    case round =>
      obtain ⟨rfl, hbw⟩ := hrel
      go_wp2
      go_ret
      exact ⟨rfl, hbw⟩
end Go.Proofs.YtmpanikeeeoikaaGreat
namespace Go.Proofs.YtmpanikeeeoikaaGreat
open Go.RowKit Go.Shelf

theorem gb_setCell {w w' : World} {g o : Nat} (h : w.grownBy w' (some g)) (v : Value) : w.grownBy (w'.setCell ⟨g, o, none⟩ v) (some g) :=
  ⟨h.os, h.tape, h.output, by simpa [World.setCell] using h.size, fun k hk hne => (Below.heap_setCell _ _ _ _ (fun e => hne (by rw [e]))).trans (h.block k hk hne)⟩
theorem gb_alloc {w w' : World} {r : Option Nat} (h : w.grownBy w' r) (o : Obj) : w.grownBy (w'.alloc o) r :=
  ⟨h.os, h.tape, h.output, by have := h.size; simp; omega, fun k hk hne => (Below.heap_alloc _ _ _ (Nat.lt_of_lt_of_le hk h.size)).trans (h.block k hk hne)⟩
theorem gb_trans {a b c : World} {r : Option Nat} (h : a.grownBy b r) (k : b.grownBy c r) : a.grownBy c r :=
  ⟨k.os.trans h.os, k.tape.trans h.tape, k.output.trans h.output, Nat.le_trans h.size k.size, fun i hi hne => (k.block i (Nat.lt_of_lt_of_le hi h.size) hne).trans (h.block i hi hne)⟩
theorem gb_drewN {a b : World} {r : Option Nat} (h : a.grownBy b r) (n : Nat) : a.grownBy (b.drewN n) r := ⟨h.os, h.tape, h.output, h.size, h.block⟩
theorem gb_drew {a b : World} {r : Option Nat} (h : a.grownBy b r) : a.grownBy b.drew r := ⟨h.os, h.tape, h.output, h.size, h.block⟩
theorem gb_below {w w' : World} {g : Nat} (h : w.grownBy w' (some g)) (hg : g ≤ w.heap.size) : Below g w w' :=
  ⟨h.os, h.tape, h.output, h.size, fun k hk => h.block k (by omega) (fun e => by cases e; omega)⟩
theorem gb_of_below {w w' : World} {r : Option Nat} (h : Below w.heap.size w w') : w.grownBy w' r := grown_of_below h r
/-- A store that other blocks do not see, behind new blocks. -/
theorem gb_new {w w' : World} {r : Option Nat} (h : w.grownBy w' r) {g o : Nat} (hg : w.heap.size ≤ g) (v : Value) : w.grownBy (w'.setCell ⟨g, o, none⟩ v) r :=
  ⟨h.os, h.tape, h.output, by simpa [World.setCell] using h.size, fun k hk hne => (Below.heap_setCell _ _ _ _ (by dsimp only; omega)).trans (h.block k hk hne)⟩

theorem Blk.grown {w w' : World} {g : Nat} {cs : Array Value} {r : Option Nat} (h : Blk w g cs) (hg : w.grownBy w' r) (hne : some g ≠ r) : Blk w' g cs :=
  ⟨fun o => (World.cell?_of_block (a := ⟨g, o, none⟩) (hg.block g h.2.2 hne)).trans (h.1 o), fun o => (World.frozen?_of_block (a := ⟨g, o, none⟩) (hg.block g h.2.2 hne)).trans (h.2.1 o), Nat.lt_of_lt_of_le h.2.2 hg.size⟩
theorem setCell_other {w : World} {g g' o o' : Nat} (v : Value) (h : g ≠ g') : (w.setCell ⟨g', o', none⟩ v).cell? ⟨g, o, none⟩ = w.cell? ⟨g, o, none⟩ :=
  World.cell?_of_block (Below.heap_setCell _ _ _ _ h)
theorem setCell_frozen (w : World) (a b : Addr) (v : Value) : (w.setCell b v).frozen? a = w.frozen? a := by
  unfold World.frozen? World.setCell
  simp only [Array.getElem?_modify]
  by_cases h : b.block = a.block
  · rw [if_pos h]
    cases w.heap[a.block]? with
    | none => rfl
    | some ob => cases ob <;> rfl
  · rw [if_neg h]
/-- A block of which one cell has been written. -/
theorem Blk.set {w : World} {g : Nat} {cs : Array Value} (h : Blk w g cs) (o : Nat) (v : Value) (ho : o < cs.size) : Blk (w.setCell ⟨g, o, none⟩ v) g (cs.set o v) := by
  refine ⟨fun p => ?_, fun p => by rw [setCell_frozen]; exact h.2.1 p, by simpa [World.setCell] using h.2.2⟩
  have hv := h.1 o
  have hc : (w.cell? ⟨g, o, none⟩).isSome = true := by rw [hv]; simp [ho]
  by_cases hp : p = o
  · subst hp
    rw [cell_set_same w g p v hc]; simp
  · have h1 : (w.setCell ⟨g, o, none⟩ v).cell? ⟨g, p, none⟩ = w.cell? ⟨g, p, none⟩ := by
      cases hh : w.heap[g]? with
      | none => simp [World.cell?, hh] at hc
      | some ob =>
        cases ob with
        | cells c e fz =>
          simp [World.cell?, hh] at hc
          simp [World.cell?, World.setCell, Array.getElem?_modify, hh, Ne.symm hp]
        | _ => simp [World.cell?, hh] at hc
    rw [h1, h.1 p, Array.getElem?_set_ne ho (Ne.symm hp)]
theorem Blk.setOther {w : World} {g g' o : Nat} {cs : Array Value} (h : Blk w g cs) (v : Value) (hne : g ≠ g') : Blk (w.setCell ⟨g', o, none⟩ v) g cs :=
  ⟨fun p => (setCell_other v hne).trans (h.1 p), fun p => by rw [setCell_frozen]; exact h.2.1 p, by simpa [World.setCell] using h.2.2⟩
theorem Blk.congr {w : World} {g : Nat} {cs ds : Array Value} (h : Blk w g cs) (e : cs = ds) : Blk w g ds := e ▸ h
theorem Blk.cell {w : World} {g : Nat} {cs : Array Value} (h : Blk w g cs) (o : Nat) (v : Value) (hv : cs[o]? = some v) : w.cell? ⟨g, o, none⟩ = some v := (h.1 o).trans hv
theorem Blk.drewN {w : World} {g : Nat} {cs : Array Value} (h : Blk w g cs) (n : Nat) : Blk (w.drewN n) g cs := h
/-- Tokens (or whatever else) that lay in an earlier world lie in a later one. -/
theorem Sl.cells_later {w0 w : World} {off b : Nat} {xs : List Value} (hb : Below w0.heap.size w0 w) (hlt : b < w0.heap.size)
    (hx : ∀ j u, xs[j]? = some u → w0.cell? ⟨b, off + j, none⟩ = some u) : ∀ j u, xs[j]? = some u → w.cell? ⟨b, off + j, none⟩ = some u :=
  fun j u hu => (hb.cell (p := ⟨b, off + j, none⟩) hlt).trans (hx j u hu)
end Go.Proofs.YtmpanikeeeoikaaGreat
