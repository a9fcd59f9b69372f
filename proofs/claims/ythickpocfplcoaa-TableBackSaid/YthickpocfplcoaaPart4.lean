/- Texts sorted and compacted are the row of all texts in order, each once. Rows of statements: the reference's Same and Has. Plain laws on worlds in which at most one block has been written. -/
import Derived.Test.YthickpocfplcoaaPart3
import Derived.Lib.SlicesCompact
import Derived.Lib.RowBridge
import Derived.Sort.Walk0
import Derived.Sort.EncStr
namespace Go.Proofs.Ythickpocfplcoaa
open Go.RowKit Go.Shelf Go.Lib Go.Sort

def dedupG {α : Type} [DecidableEq α] : List α → List α
  | [] => []
  | [x] => [x]
  | x :: y :: r => if x = y then dedupG (y :: r) else x :: dedupG (y :: r)
section
variable {α : Type} [DecidableEq α]
theorem dedupG_mem : ∀ (l : List α) (z : α), z ∈ dedupG l ↔ z ∈ l
  | [], z => by simp [dedupG]
  | [x], z => by simp [dedupG]
  | x :: y :: r, z => by
    have ih := dedupG_mem (y :: r) z
    unfold dedupG
    by_cases e : x = y
    · rw [if_pos e, ih, e]; simp
    · rw [if_neg e, List.mem_cons, ih, List.mem_cons (b := x)]
theorem dedupG_snoc : ∀ (p : List α) (y z : α), dedupG (p ++ [y, z]) = if y = z then dedupG (p ++ [y]) else dedupG (p ++ [y]) ++ [z]
  | [], y, z => by
    show dedupG [y, z] = if y = z then dedupG [y] else dedupG [y] ++ [z]
    unfold dedupG
    by_cases h : y = z
    · rw [if_pos h, if_pos h, h]; rfl
    · rw [if_neg h, if_neg h]; rfl
  | [x], y, z => by
    have ih := dedupG_snoc [] y z
    simp only [List.nil_append] at ih
    show dedupG (x :: y :: [z]) = if y = z then dedupG (x :: y :: []) else dedupG (x :: y :: []) ++ [z]
    have e1 : dedupG (x :: y :: [z]) = if x = y then dedupG [y, z] else x :: dedupG [y, z] := rfl
    have e2 : dedupG (x :: y :: []) = if x = y then dedupG [y] else x :: dedupG [y] := rfl
    rw [e1, e2, ih]
    by_cases h1 : x = y <;> by_cases h2 : y = z <;> simp [h1, h2]
  | x :: x' :: p, y, z => by
    have ih := dedupG_snoc (x' :: p) y z
    simp only [List.cons_append] at ih ⊢
    have e1 : ∀ r, dedupG (x :: x' :: r) = if x = x' then dedupG (x' :: r) else x :: dedupG (x' :: r) := fun _ => rfl
    rw [e1, e1, ih]
    by_cases h1 : x = x' <;> by_cases h2 : y = z <;> simp [h1, h2]
theorem compactUpTo_dedup [Inhabited α] (zs : List α) : ∀ m, m ≤ zs.length → compactUpTo zs.toArray m = dedupG (zs.take m)
  | 0, _ => rfl
  | 1, h => by
    rw [compactUpTo_succ, keeps_lt_one _ 0 (by omega)]
    match zs, h with
    | x :: r, _ => simp [compactUpTo, dedupG]
  | m + 2, h => by
    have ih := compactUpTo_dedup zs (m + 1) (by omega)
    have e0 : zs.toArray[m + 1]! = zs[m + 1] := by simp [show m + 1 < zs.length by omega]
    have e1 : zs.toArray[m]! = zs[m] := by simp [show m < zs.length by omega]
    have et : zs.take (m + 2) = zs.take m ++ [zs[m], zs[m + 1]] := by
      rw [List.take_succ_eq_append_getElem (by omega), List.take_succ_eq_append_getElem (by omega), List.append_assoc]; rfl
    have et1 : zs.take (m + 1) = zs.take m ++ [zs[m]] := List.take_succ_eq_append_getElem (by omega)
    rw [compactUpTo_succ, ih, et, dedupG_snoc, ← et1]
    by_cases e : zs[m] = zs[m + 1]
    · rw [if_pos e, keeps_neg (by omega) (by rw [e0, show m + 1 - 1 = m by omega, e1]; exact e.symm)]
      simp
    · rw [if_neg e, keeps_pos (by rw [e0, show m + 1 - 1 = m by omega, e1]; exact fun h => e h.symm), if_pos rfl, e0]
theorem compact_dedup [Inhabited α] (zs : List α) : compact zs = dedupG zs := by
  unfold compact
  rw [compactUpTo_dedup zs _ (Nat.le_refl _), List.take_of_length_le (Nat.le_refl _)]
end
def toBA (x : List UInt8) : ByteArray := ⟨x.toArray⟩
theorem bl_toBA (x : List UInt8) : bl (toBA x) = x := by simp [bl, toBA]
theorem toBA_bl (x : ByteArray) : toBA (bl x) = x := by cases x; simp [bl, toBA]
theorem toBA_inj {x y : List UInt8} (h : toBA x = toBA y) : x = y := by rw [← bl_toBA x, h, bl_toBA]
theorem le_cmp (x y : List UInt8) : x ≤ y ↔ compareBytes x y ≤ 0 := by
  have h1 := bytesLess_eq y x
  have h2 := cmp_less y x
  have h3 := cmp_neg x y
  rw [h1] at h2
  have h4 : y < x ↔ compareBytes y x < 0 := by
    constructor
    · intro h; exact of_decide_eq_true (h2 ▸ decide_eq_true h)
    · intro h; exact of_decide_eq_true (h2.symm ▸ decide_eq_true h)
  rw [← List.not_lt, h4]
  omega
theorem dedupG_asc : ∀ (l : List (List UInt8)), (l.Pairwise fun x y => x ≤ y) → AscB ((dedupG l).map toBA)
  | [], _ => List.Pairwise.nil
  | [x], _ => by simp [dedupG, AscB]
  | x :: y :: r, h => by
    have h' := List.pairwise_cons.1 h
    have ih := dedupG_asc (y :: r) h'.2
    unfold dedupG
    by_cases e : x = y
    · rw [if_pos e]; exact ih
    · rw [if_neg e, List.map_cons]
      refine List.pairwise_cons.2 ⟨fun z hz => ?_, ih⟩
      obtain ⟨z', hz', rfl⟩ := List.mem_map.1 hz
      have hz'' := (dedupG_mem (y :: r) z').1 hz'
      have hxz : compareBytes x z' ≤ 0 := (le_cmp x z').1 (h'.1 z' hz'')
      have hxy : compareBytes x y ≤ 0 := (le_cmp x y).1 (h'.1 y (by simp))
      have hyz : compareBytes y z' ≤ 0 := by
        rcases List.mem_cons.1 hz'' with rfl | hz''
        · have := (cmp_zero z' z').2 rfl; omega
        · exact (le_cmp y z').1 ((List.pairwise_cons.1 h'.2).1 z' hz'')
      have hne : ¬ compareBytes x y = 0 := fun h0 => e ((cmp_zero x y).1 h0)
      obtain ⟨_, h2⟩ := cmpB_le x y z' hxy hyz
      have hne2 : ¬ compareBytes x z' = 0 := fun h0 => hne (h2 h0).1
      show compareBytes (bl (toBA x)) (bl (toBA z')) < 0
      rw [bl_toBA, bl_toBA]
      omega
/-- What names.New makes of a row of texts. -/
theorem sorted_new (l : List ByteArray) : (compact ((l.map bl).mergeSort fun x y => decide (x ≤ y))).map toBA = newB l := by
  rw [compact_dedup]
  have hs : ((l.map bl).mergeSort fun x y => decide (x ≤ y)).Pairwise fun x y => x ≤ y := by
    have h := List.pairwise_mergeSort (le := fun (x y : List UInt8) => decide (x ≤ y)) (fun a b c h1 h2 => decide_eq_true (List.le_trans (of_decide_eq_true h1) (of_decide_eq_true h2))) (fun a b => by
      rw [Bool.or_eq_true, decide_eq_true_iff, decide_eq_true_iff]; exact List.le_total a b) (l.map bl)
    exact h.imp (fun h => of_decide_eq_true h)
  refine asc_uniqueB _ _ (dedupG_asc _ hs) (new_asc l) fun z => ?_
  rw [new_mem, List.mem_map]
  constructor
  · rintro ⟨x, hx, rfl⟩
    have := (dedupG_mem _ x).1 hx
    rw [List.mem_mergeSort, List.mem_map] at this
    obtain ⟨y, hy, rfl⟩ := this
    rw [toBA_bl]; exact hy
  · intro hz
    refine ⟨bl z, (dedupG_mem _ _).2 ?_, toBA_bl z⟩
    rw [List.mem_mergeSort]
    exact List.mem_map.2 ⟨z, hz, rfl⟩
end Go.Proofs.Ythickpocfplcoaa
namespace Go.Proofs.Ythickpocfplcoaa
open Go.RowKit Go.Shelf

instance : Inhabited St := ⟨noS⟩
/-- A slice among the arguments: as 'Sl', or one of no element and no cell, wherever it may lie. -/
def SlA (w : World) (size : Nat) (v : Value) (n : Nat) (xs : List Value) : Prop := Sl w size v n xs ∨ ((∃ a c, v = .slice (some a) 0 c) ∧ n = 0 ∧ xs = [])
section
variable {w w' : World} {size n : Nat} {v : Value} {xs : List Value}
theorem Sl.a (h : Sl w size v n xs) : SlA w size v n xs := .inl h
theorem SlA.max (h : SlA w size v n xs) : n ≤ 9223372036854775807 := by
  rcases h with h | ⟨_, rfl, _⟩
  · exact h.max
  · exact Nat.zero_le _
theorem SlA.below (h : SlA w size v n xs) (hb : Below w.heap.size w w') : SlA w' size v n xs := by
  rcases h with h | h
  · exact .inl (h.below hb)
  · exact .inr h
theorem SlA.pos (h : SlA w size v n xs) (h0 : 0 < n) :
    ∃ b off cap, v = .slice (some ⟨b, off, none⟩) n cap ∧ n ≤ cap ∧ cap ≤ 9223372036854775807 ∧ b < w.heap.size ∧ ∀ j u, xs[j]? = some u → w.cell? ⟨b, off + j, none⟩ = some u := by
  rcases h with h | ⟨_, rfl, _⟩
  · exact h.pos h0
  · omega
theorem SlA.form (h : SlA w size v n xs) : ∃ (a : Option Addr) (cap : Nat), v = .slice a n cap := by
  rcases h with h | ⟨⟨a, c, rfl⟩, rfl, _⟩
  · exact h.form
  · exact ⟨_, _, rfl⟩
end
def hasS (l : List St) (s : St) : Bool := l.any (fun x => eqSt x s)
theorem st_cell {w : World} {b off : Nat} {l : List St} (h : ∀ j u, (l.flatMap St.cells)[j]? = some u → w.cell? ⟨b, off + j, none⟩ = some u) (k : Nat) (hk : k < l.length) :
    w.cell? ⟨b, off + k * 9, none⟩ = some (.int .i64 l[k].k) ∧ w.cell? ⟨b, off + k * 9 + 1, none⟩ = some (.string l[k].h.o) ∧ w.cell? ⟨b, off + k * 9 + 2, none⟩ = some (.string l[k].h.n) ∧ w.cell? ⟨b, off + k * 9 + 3, none⟩ = some (.string l[k].who) ∧ w.cell? ⟨b, off + k * 9 + 4, none⟩ = some (.string l[k].a.o) ∧ w.cell? ⟨b, off + k * 9 + 5, none⟩ = some (.string l[k].a.n) ∧ w.cell? ⟨b, off + k * 9 + 6, none⟩ = some (.string l[k].b.o) ∧ w.cell? ⟨b, off + k * 9 + 7, none⟩ = some (.string l[k].b.n) ∧ w.cell? ⟨b, off + k * 9 + 8, none⟩ = some (.string l[k].via) := by
  have hx : l[k]? = some l[k] := List.getElem?_eq_getElem hk
  have h0 := h _ _ ((flat_get St.cells 9 St.cells_len l k 0 (by omega) _ hx).trans rfl)
  have h1 := h _ _ ((flat_get St.cells 9 St.cells_len l k 1 (by omega) _ hx).trans rfl)
  have h2 := h _ _ ((flat_get St.cells 9 St.cells_len l k 2 (by omega) _ hx).trans rfl)
  have h3 := h _ _ ((flat_get St.cells 9 St.cells_len l k 3 (by omega) _ hx).trans rfl)
  have h4 := h _ _ ((flat_get St.cells 9 St.cells_len l k 4 (by omega) _ hx).trans rfl)
  have h5 := h _ _ ((flat_get St.cells 9 St.cells_len l k 5 (by omega) _ hx).trans rfl)
  have h6 := h _ _ ((flat_get St.cells 9 St.cells_len l k 6 (by omega) _ hx).trans rfl)
  have h7 := h _ _ ((flat_get St.cells 9 St.cells_len l k 7 (by omega) _ hx).trans rfl)
  have h8 := h _ _ ((flat_get St.cells 9 St.cells_len l k 8 (by omega) _ hx).trans rfl)
  exact ⟨h0, h1, h2, h3, h4, h5, h6, h7, h8⟩
theorem same_len {l m : List St} (h : ¬ l.length = m.length) : decide (l = m) = false := decide_eq_false (fun e => h (by rw [e]))
theorem take_more {l m : List St} {k : Nat} (h : l.take k = m.take k) (hl : k < l.length) (hm : k < m.length) (e : l[k] = m[k]) : l.take (k + 1) = m.take (k + 1) := by
  rw [List.take_succ_eq_append_getElem hl, List.take_succ_eq_append_getElem hm, h, e]
theorem same_end {l m : List St} {k : Nat} (h : l.take k = m.take k) (hl : ¬ k < l.length) (hm : ¬ k < m.length) : decide (l = m) = true := by
  rw [List.take_of_length_le (by omega), List.take_of_length_le (by omega)] at h
  exact decide_eq_true h
theorem same_no {l m : List St} {k : Nat} (hl : k < l.length) (hm : k < m.length) (e : ¬ l[k] = m[k]) : decide (l = m) = false := decide_eq_false (fun h => e (by subst h; rfl))

theorem has_yes {l : List St} {s : St} {k : Nat} (hl : k < l.length) (e : l[k] = s) : hasS l s = true := by
  unfold hasS; rw [List.any_eq_true]; exact ⟨l[k], List.getElem_mem hl, by simp [eqSt, e]⟩
theorem has_end {l : List St} {s : St} {k : Nat} (hk : ¬ k < l.length) (h : ∀ j (hj : j < l.length), j < k → ¬ l[j] = s) : hasS l s = false := by
  unfold hasS; rw [List.any_eq_false]
  intro x hx
  obtain ⟨j, hj, rfl⟩ := List.getElem_of_mem hx
  simp [eqSt, h j hj (by omega)]
end Go.Proofs.Ythickpocfplcoaa
namespace Go.Proofs.Ythickpocfplcoaa
open Go.RowKit Go.Shelf

theorem gb_setCell {w w' : World} {g o : Nat} (h : w.grownBy w' (some g)) (v : Value) : w.grownBy (w'.setCell ⟨g, o, none⟩ v) (some g) :=
  ⟨h.os, h.tape, h.output, by simpa [World.setCell] using h.size, fun k hk hne => (Below.heap_setCell _ _ _ _ (fun e => hne (by rw [e]))).trans (h.block k hk hne)⟩
theorem gb_alloc {w w' : World} {r : Option Nat} (h : w.grownBy w' r) (o : Obj) : w.grownBy (w'.alloc o) r :=
  ⟨h.os, h.tape, h.output, by have := h.size; simp; omega, fun k hk hne => (Below.heap_alloc _ _ _ (Nat.lt_of_lt_of_le hk h.size)).trans (h.block k hk hne)⟩
theorem gb_trans {a b c : World} {r : Option Nat} (h : a.grownBy b r) (k : b.grownBy c r) : a.grownBy c r :=
  ⟨k.os.trans h.os, k.tape.trans h.tape, k.output.trans h.output, Nat.le_trans h.size k.size, fun i hi hne => (k.block i (Nat.lt_of_lt_of_le hi h.size) hne).trans (h.block i hi hne)⟩
theorem gb_drewN {a b : World} {r : Option Nat} (h : a.grownBy b r) (n : Nat) : a.grownBy (b.drewN n) r := ⟨h.os, h.tape, h.output, h.size, h.block⟩
theorem gb_drew {a b : World} {r : Option Nat} (h : a.grownBy b r) : a.grownBy b.drew r := ⟨h.os, h.tape, h.output, h.size, h.block⟩
theorem gb_below {w w' : World} {g : Nat} (h : w.grownBy w' (some g)) (hg : g ≤ w.heap.size) : Below g w w' :=
  ⟨h.os, h.tape, h.output, h.size, fun k hk => h.block k (by omega) (fun e => by cases e; omega)⟩
theorem gb_of_below {w w' : World} {r : Option Nat} (h : Below w.heap.size w w') : w.grownBy w' r := grown_of_below h r
/-- A store that other blocks do not see, behind new blocks. -/
theorem gb_new {w w' : World} {r : Option Nat} (h : w.grownBy w' r) {g o : Nat} (hg : w.heap.size ≤ g) (v : Value) : w.grownBy (w'.setCell ⟨g, o, none⟩ v) r :=
  ⟨h.os, h.tape, h.output, by simpa [World.setCell] using h.size, fun k hk hne => (Below.heap_setCell _ _ _ _ (by dsimp only; omega)).trans (h.block k hk hne)⟩

theorem Blk.grown {w w' : World} {g : Nat} {cs : Array Value} {r : Option Nat} (h : Blk w g cs) (hg : w.grownBy w' r) (hne : some g ≠ r) : Blk w' g cs :=
  ⟨fun o => (World.cell?_of_block (a := ⟨g, o, none⟩) (hg.block g h.2.2 hne)).trans (h.1 o), fun o => (World.frozen?_of_block (a := ⟨g, o, none⟩) (hg.block g h.2.2 hne)).trans (h.2.1 o), Nat.lt_of_lt_of_le h.2.2 hg.size⟩
theorem setCell_other {w : World} {g g' o o' : Nat} (v : Value) (h : g ≠ g') : (w.setCell ⟨g', o', none⟩ v).cell? ⟨g, o, none⟩ = w.cell? ⟨g, o, none⟩ :=
  World.cell?_of_block (Below.heap_setCell _ _ _ _ h)
theorem setCell_frozen (w : World) (a b : Addr) (v : Value) : (w.setCell b v).frozen? a = w.frozen? a := by
  unfold World.frozen? World.setCell
  simp only [Array.getElem?_modify]
  by_cases h : b.block = a.block
  · rw [if_pos h]
    cases w.heap[a.block]? with
    | none => rfl
    | some ob => cases ob <;> rfl
  · rw [if_neg h]
/-- A block of which one cell has been written. -/
theorem Blk.set {w : World} {g : Nat} {cs : Array Value} (h : Blk w g cs) (o : Nat) (v : Value) (ho : o < cs.size) : Blk (w.setCell ⟨g, o, none⟩ v) g (cs.set o v) := by
  refine ⟨fun p => ?_, fun p => by rw [setCell_frozen]; exact h.2.1 p, by simpa [World.setCell] using h.2.2⟩
  have hv := h.1 o
  have hc : (w.cell? ⟨g, o, none⟩).isSome = true := by rw [hv]; simp [ho]
  by_cases hp : p = o
  · subst hp
    rw [cell_set_same w g p v hc]; simp
  · have h1 : (w.setCell ⟨g, o, none⟩ v).cell? ⟨g, p, none⟩ = w.cell? ⟨g, p, none⟩ := by
      cases hh : w.heap[g]? with
      | none => simp [World.cell?, hh] at hc
      | some ob =>
        cases ob with
        | cells c e fz =>
          simp [World.cell?, hh] at hc
          simp [World.cell?, World.setCell, Array.getElem?_modify, hh, Ne.symm hp]
        | _ => simp [World.cell?, hh] at hc
    rw [h1, h.1 p, Array.getElem?_set_ne ho (Ne.symm hp)]
theorem Blk.setOther {w : World} {g g' o : Nat} {cs : Array Value} (h : Blk w g cs) (v : Value) (hne : g ≠ g') : Blk (w.setCell ⟨g', o, none⟩ v) g cs :=
  ⟨fun p => (setCell_other v hne).trans (h.1 p), fun p => by rw [setCell_frozen]; exact h.2.1 p, by simpa [World.setCell] using h.2.2⟩
theorem Blk.congr {w : World} {g : Nat} {cs ds : Array Value} (h : Blk w g cs) (e : cs = ds) : Blk w g ds := e ▸ h
theorem Blk.cell {w : World} {g : Nat} {cs : Array Value} (h : Blk w g cs) (o : Nat) (v : Value) (hv : cs[o]? = some v) : w.cell? ⟨g, o, none⟩ = some v := (h.1 o).trans hv
theorem Blk.drewN {w : World} {g : Nat} {cs : Array Value} (h : Blk w g cs) (n : Nat) : Blk (w.drewN n) g cs := h
/-- Tokens (or whatever else) that lay in an earlier world lie in a later one. -/
theorem Sl.cells_later {w0 w : World} {off b : Nat} {xs : List Value} (hb : Below w0.heap.size w0 w) (hlt : b < w0.heap.size)
    (hx : ∀ j u, xs[j]? = some u → w0.cell? ⟨b, off + j, none⟩ = some u) : ∀ j u, xs[j]? = some u → w.cell? ⟨b, off + j, none⟩ = some u :=
  fun j u hu => (hb.cell (p := ⟨b, off + j, none⟩) hlt).trans (hx j u hu)
end Go.Proofs.Ythickpocfplcoaa
