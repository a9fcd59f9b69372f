/- Small words that every text of mine uses: results, strings as lists of bytes, one package variable's cell. Plain Lean, no condition. Plain laws on slices in memory: a slice that reads as a list of cells; it is kept by whatever only makes memory. A world for a witness: the settled one, in which the two listed tables hold what their texts lay. Plain laws on blocks that a call made and that stand whole behind other calls. The lines of a text, in plain Lean. A range over a function whose iterator keeps its state in one cell of its own: what the iterator promises, and the statement's law (a body that never leaves the loop). What the tokens of a line are, in plain Lean: no program in sight. The reference of layer 1: what its small functions return, for every text. Roles and statements as data, and what may be one; in plain Lean. The package names' small functions: what each returns, for every argument. The package syn: what its small functions return, for every role and statement. -/
import Derived.Test.YtedkkegjiikcmaaDoorProg
import Derived.WalkKit
import Derived.WalkSpells
import Derived.WalkLawsBesides
import Derived.Lib.Hide
import Derived.Deep.QuietTactic
import Derived.BigQuiet
import Derived.Deep.Draws
import Derived.Deep.DeepFit
import Derived.Deep.DeepCutAuto
import Derived.Deep.LoopGhost
import Derived.Shelf.Abstract
import Derived.Laws.OwnMore
import Derived.OwnWalk
import Derived.StillTailTactics
import Derived.Test.YtedkkegjiikcmaaDoorCards
import Derived.Test.YtedkkegjiikcmaaDoorTie
import Derived.ProofKit
import Derived.OpenShut
import Derived.Deep.DeepHandedRow
import Derived.Lib.LaidTab
import Derived.Shelf.Strings.Shaped
import Derived.Test.YtedkkegjiikcmaaDoorShelf
import Derived.Lib.IndexLaws
import Derived.RangeFuncNested
import Derived.RangeFuncBound
import Derived.RangeFuncCalls
import Derived.RangeFuncLeaves
import Derived.Shelf.RegionOpen
import Derived.OwnWalkIn
import Derived.TacticsInMore
import Derived.LoopNIn
import Derived.LoopIn
import Derived.Lib.IndexMore
import Derived.Lib.Bytealg
import Derived.Laws.StructEq
namespace Go.Proofs.YtedkkegjiikcmaaDoor
open Go.RowKit Go.Shelf

theorem ret_b {a b : Bool} (h : a = b) : Ending.returned (.bool a) = .returned (.bool b) := by rw [h]
theorem ret_s {a b : ByteArray} (h : a = b) : Ending.returned (.string a) = .returned (.string b) := by rw [h]
theorem ret_int {k : IntKind} {a b : Int} (h : a = b) : Ending.returned (.int k a) = .returned (.int k b) := by rw [h]

theorem below_drewN {B : Nat} {a w : World} (h : Below B a w) (n : Nat) : Below B a (w.drewN n) := ⟨h.os, h.tape, h.output, h.size, h.block⟩
theorem below_drew {B : Nat} {a w : World} (h : Below B a w) : Below B a w.drew := ⟨h.os, h.tape, h.output, h.size, h.block⟩
theorem below_of_drewN {w : World} (n : Nat) : Below w.heap.size w (w.drewN n) := below_drewN (Below.refl _ _) n

abbrev bl (s : ByteArray) : List UInt8 := s.data.toList
theorem bl_len (s : ByteArray) : (bl s).length = s.size := by simp [bl]
theorem bl_drop (s : ByteArray) (k : Nat) (h : k < s.size) : (bl s).drop k = s[k] :: (bl s).drop (k + 1) := by
  rw [List.drop_eq_getElem_cons (by simpa using h)]; rfl
theorem bl_drop_end (s : ByteArray) (k : Nat) (h : ¬ k < s.size) : (bl s).drop k = [] := List.drop_of_length_le (by rw [bl_len]; omega)
theorem bl_take (s : ByteArray) (k : Nat) (h : k < s.size) : (bl s).take (k + 1) = (bl s).take k ++ [s[k]] := by
  rw [List.take_succ_eq_append_getElem (by simpa using h)]; rfl
theorem size_ne (s : ByteArray) (h : 0 < s.size) : ((s.size : Int) == 0) = false := by
  rw [beq_eq_false_iff_ne]; omega
theorem size_eq (s : ByteArray) (h : ¬ 0 < s.size) : ((s.size : Int) == 0) = true := by
  rw [beq_iff_eq]; omega

def btw (c lo hi : Int) : Bool := decide (lo ≤ c) && decide (c ≤ hi)
def alnum (c : UInt8) : Bool := btw c.toNat 97 122 || btw c.toNat 65 90 || btw c.toNat 48 57
def isP (lo hi : Int) (l : List UInt8) : Bool := match l with
  | [] => false
  | c :: r => decide ((c :: r).length ≤ 8) && btw c.toNat lo hi && (c :: r).all alnum

theorem isP_of (lo hi : Int) (s : ByteArray) (h0 : 0 < s.size) (h8 : s.size ≤ 8) (hb : btw s[0].toNat lo hi = true) : isP lo hi (bl s) = (bl s).all alnum := by
  have := bl_drop s 0 h0
  simp only [List.drop_zero] at this
  have hl : (bl s).length ≤ 8 := by rw [bl_len]; exact h8
  rw [this] at hl ⊢
  simp only [isP, hb, hl]; simp
theorem isP_false (lo hi : Int) (s : ByteArray) (h0 : 0 < s.size) (hb : btw s[0].toNat lo hi = false) : isP lo hi (bl s) = false := by
  have := bl_drop s 0 h0
  simp only [List.drop_zero] at this
  rw [this]; simp [isP, hb]
theorem isP_long (lo hi : Int) (s : ByteArray) (h : 8 < s.size) : isP lo hi (bl s) = false := by
  have h1 := bl_drop s 0 (by omega)
  simp only [List.drop_zero] at h1
  have hl : 8 < (bl s).length := by rw [bl_len]; exact h
  rw [h1] at hl ⊢
  have : ¬ ((s[0] :: (bl s).drop (0 + 1)).length ≤ 8) := by omega
  simp only [isP, this]; simp
theorem isP_nil (lo hi : Int) (s : ByteArray) (h : ¬ 0 < s.size) : isP lo hi (bl s) = false := by
  have : bl s = [] := List.eq_nil_of_length_eq_zero (by rw [bl_len]; omega)
  rw [this]; rfl
theorem all_step (s : ByteArray) (k : Nat) (h : k < s.size) : ((bl s).drop k).all alnum = (alnum s[k] && ((bl s).drop (k + 1)).all alnum) := by
  rw [bl_drop s k h, List.all_cons]
theorem all_end (s : ByteArray) (k : Nat) (h : ¬ k < s.size) : ((bl s).drop k).all alnum = true := by
  rw [bl_drop_end s k h]; rfl
end Go.Proofs.YtedkkegjiikcmaaDoor
namespace Go.Proofs.YtedkkegjiikcmaaDoor
open Go.RowKit Go.Shelf

def Sl (w : World) (size : Nat) (v : Value) (n : Nat) (xs : List Value) : Prop :=
  xs.length = n * size ∧ n ≤ maxLen ∧
  ((v = .slice none 0 0 ∧ n = 0) ∨
   ∃ b off cap, v = .slice (some ⟨b, off, none⟩) n cap ∧ n ≤ cap ∧ cap ≤ maxLen ∧ b < w.heap.size ∧ ∀ j u, xs[j]? = some u → w.cell? ⟨b, off + j, none⟩ = some u)

section
variable {w w' : World} {size n : Nat} {v : Value} {xs : List Value}
theorem Sl.max (h : Sl w size v n xs) : n ≤ 9223372036854775807 := by have := h.2.1; simpa [maxLen] using this
theorem Sl.below (h : Sl w size v n xs) (hb : Below w.heap.size w w') : Sl w' size v n xs := by
  refine ⟨h.1, h.2.1, ?_⟩
  rcases h.2.2 with h0 | ⟨b, off, cap, hv, hc, hm, hlt, hx⟩
  · exact .inl h0
  · exact .inr ⟨b, off, cap, hv, hc, hm, Nat.lt_of_lt_of_le hlt hb.size, fun j u hu => (hb.cell (p := ⟨b, off + j, none⟩) hlt).trans (hx j u hu)⟩
theorem Sl.of_own {base : Nat} {e : TypeId} (h : w.ownsRow base e size v n xs) : Sl w size v n xs := by
  rcases h.2 with ⟨rfl, rfl⟩ | ⟨g, cap, cur, rfl, hb, hg, hnc, hm, hs, ht⟩
  · exact ⟨h.1, by simp [maxLen], .inl ⟨rfl, rfl⟩⟩
  · refine ⟨h.1, Nat.le_trans hnc hm, .inr ⟨g, 0, cap, rfl, hnc, hm, (Array.getElem?_eq_some_iff.1 hg).1, fun j u hu => ?_⟩⟩
    have := h.cells (g := g) rfl j u hu
    rw [show (⟨g, 0, none⟩ : Addr).add j = ⟨g, 0 + j, none⟩ by unfold Addr.add; split <;> simp_all] at this
    exact this
theorem Sl.pos (h : Sl w size v n xs) (h0 : 0 < n) :
    ∃ b off cap, v = .slice (some ⟨b, off, none⟩) n cap ∧ n ≤ cap ∧ cap ≤ 9223372036854775807 ∧ b < w.heap.size ∧ ∀ j u, xs[j]? = some u → w.cell? ⟨b, off + j, none⟩ = some u := by
  rcases h.2.2 with ⟨_, hn⟩ | ⟨b, off, cap, hv, hc, hm, hlt, hx⟩
  · omega
  · exact ⟨b, off, cap, hv, hc, by simpa [maxLen] using hm, hlt, hx⟩
theorem Sl.form (h : Sl w size v n xs) : ∃ (a : Option Addr) (cap : Nat), v = .slice a n cap := by
  rcases h.2.2 with ⟨hv, hn⟩ | ⟨b, off, cap, hv, _⟩
  · exact ⟨none, 0, by rw [hv, hn]⟩
  · exact ⟨_, _, hv⟩
end

theorem grown_of_below {w w' : World} (h : Below w.heap.size w w') (row : Option Nat) : w.grownBy w' row := ⟨h.os, h.tape, h.output, h.size, fun i hi _ => h.block i hi⟩
theorem own_below {w w' : World} {base size n : Nat} {e : TypeId} {v : Value} {xs : List Value} (h : w.ownsRow base e size v n xs) (hb : Below w.heap.size w w') : w'.ownsRow base e size v n xs := by
  refine h.kept (grown_of_below hb none) ?_
  cases hv : v.ownBlock <;> simp
theorem own_ne {w : World} {base size n g : Nat} {e : TypeId} {v : Value} {xs : List Value} (h : w.ownsRow base e size v n xs) (hg : w.heap.size ≤ g) : some g ≠ v.ownBlock := by
  intro he
  have := (h.lt g he.symm).2
  omega
theorem grown_cell {w w1 w2 : World} {base size n : Nat} {e : TypeId} {v : Value} {xs : List Value} (h : w.ownsRow base e size v n xs) (hgr : w1.grownBy w2 v.ownBlock) {g o : Nat} {u : Value}
    (hg : w.heap.size ≤ g) (hc : w1.cell? ⟨g, o, none⟩ = some u) : w2.cell? ⟨g, o, none⟩ = some u := hgr.cell hc (own_ne h hg)
theorem own_form {w : World} {base size n : Nat} {e : TypeId} {v : Value} {xs : List Value} (h : w.ownsRow base e size v n xs) : ∃ a cap, v = .slice a n cap := by
  rcases h.2 with ⟨rfl, rfl⟩ | ⟨g, cap, cur, rfl, _⟩
  · exact ⟨_, _, rfl⟩
  · exact ⟨_, _, rfl⟩

theorem heap_new1 (w : World) (o : Obj) : (w.alloc o).heap[w.heap.size]? = some o := heap_alloc_new w o
theorem heap_new2 (w : World) (o1 o2 : Obj) : ((w.alloc o1).alloc o2).heap[w.heap.size + 1]? = some o2 := by
  have := heap_alloc_new (w.alloc o1) o2
  simpa using this
theorem app_own {P : Program} {w : World} {ops : Array Oper} {rest : List Oper} {o : Oper} {a : Act} {Q : Exit → Act → World → Prop} {t e : TypeId} {z : Value} {size bytes : Nat}
    (ht : P.underlying t = some (.slice e)) (hinfo : (P.info? e).map (fun i => (i.zero, i.size, i.bytes)) = some (some z, size, bytes)) (hzs : z.cells.size = size) (hsz : 0 < size) (hby : bytes ≤ 1000)
    (hgd : o.guard = none) (s x : Operand) (ho : o.op = .call { callee := .builtin .append, args := #[s, x], argTypes := #[t, t] })
    (B : Nat) {v : Value} {n : Nat} {xs : List Value} (hs : a.eval s = v) (hown : w.ownsRow B e size v n xs)
    {g : Nat} (cs : List Value) (hx : a.eval x = .slice (some ⟨g, 0, none⟩) 1 1) (hc : w.heap[g]? = some (.cells cs.toArray e (0, 0))) (hl : cs.length = size) (h1 : ∀ u ∈ cs, u.oneCell' = true)
    (hn : n ≤ 100000000000) (hB : B ≤ w.heap.size)
    (h : ∀ a' cap' w', w'.ownsRow B e size (.slice a' (n + 1) cap') (n + 1) (xs ++ cs) → w.grownBy w' v.ownBlock → wpList P ops Q rest (a.put o.dst (.slice a' (n + 1) cap')) w') : wpList P ops Q (o :: rest) a w := by
  obtain ⟨i, hi, hz0, hz1, hz2⟩ := info_parts hinfo
  have hb : (n + 1) * bytes ≤ 140737488355328 := Nat.le_trans (Nat.mul_le_mul (Nat.le_refl _) hby) (by omega)
  refine wpList_append_own _ hgd s x t ho B e i z size bytes ht hi hz0 hz1 hz2 hzs hsz v n xs hs hown ⟨g, 0, none⟩ 1 1 cs hx (by omega) ?_ h1 (by simp only [maxLen]; omega) hb hB ?_
  · intro j u hu
    have hadd : (⟨g, 0, none⟩ : Addr).add j = ⟨g, j, none⟩ := by unfold Addr.add; split <;> simp_all
    rw [hadd, cell_of_row _ g j _ e (0, 0) hc]
    simpa using hu
  · intro v' w' h1 h2 _
    obtain ⟨a', cap', rfl⟩ := own_form h1
    exact h a' cap' w' h1 h2

theorem flat_get {α : Type} (enc : α → List Value) (k : Nat) (hk : ∀ x, (enc x).length = k) (l : List α) (i f : Nat) (hf : f < k) (x : α) (hx : l[i]? = some x) :
    (l.flatMap enc)[i * k + f]? = (enc x)[f]? := by
  induction l generalizing i with
  | nil => simp at hx
  | cons a r ih =>
    cases i with
    | zero =>
      simp at hx; subst hx
      rw [List.flatMap_cons, List.getElem?_append_left (by rw [hk]; omega)]
      simp
    | succ i =>
      simp at hx
      rw [List.flatMap_cons, List.getElem?_append_right (by rw [hk, Nat.add_mul]; omega), hk]
      rw [show (i + 1) * k + f - k = i * k + f by rw [Nat.add_mul]; omega]
      exact ih i hx

def Gl (w : World) : Prop := ∃ m : Int, w.cell? ⟨0, 0, none⟩ = some (.int .i64 m)
theorem Gl.below {w w' : World} (h : Gl w) (hb : Below w.heap.size w w') : Gl w' := by
  obtain ⟨m, hm⟩ := h
  exact ⟨m, (hb.cell (p := ⟨0, 0, none⟩) (World.block_lt_of_cell? w _ hm)).trans hm⟩
end Go.Proofs.YtedkkegjiikcmaaDoor
namespace Go.Proofs.YtedkkegjiikcmaaDoor
open Go.ChangeShapes Go.WideShapes Go.ChangeAt Go.RowKit

def litV : DataW Unit → Value
  | .lit (.int k n) => .int k n
  | _ => undef
def aggL : DataW Unit → List (DataW Unit)
  | .agg l => l
  | _ => []
def firstCells : Array Value := ((aggL Rows.laid_unicode_utf8_first).map litV).toArray
def acceptCells : Array Value := ((aggL (Rows.laid_unicode_utf8_acceptRanges (H := Unit))).flatMap fun d => (aggL d).map litV).toArray
def layCells (cs : Array Value) : Obj → Obj
  | .cells _ t frozen => .cells cs t frozen
  | o => o
noncomputable def laidWorld (os : Os) : World :=
  { World.holding Tryd.prog os ⟨#[], #[], []⟩ with heap := ((World.holding Tryd.prog os ⟨#[], #[], []⟩).heap.modify 1 (layCells firstCells)).modify 2 (layCells acceptCells) }
theorem gl_of_shaped (w : World) (h : w.ShapedOpen Tryd.prog) : Gl w :=
  Go.Proofs.cell_of_shapedOpen_int (zero := #[.int .i64 0]) (t := 3) h (of_decide_eq_true (by kernel_rfl)) (by kernel_rfl) rfl (by kernel_rfl) (by kernel_rfl) Tryd.underlying3
theorem own : ownKnob Tryd.prog.godebug = none := by kernel_rfl
end Go.Proofs.YtedkkegjiikcmaaDoor
namespace Go.Proofs.YtedkkegjiikcmaaDoor
open Go.RowKit Go.Shelf

structure Nr (w : World) where
  x : World
  h : Below w.heap.size w x
instance (w : World) : Inhabited (Nr w) := ⟨⟨w, Below.refl _ _⟩⟩
end Go.Proofs.YtedkkegjiikcmaaDoor
namespace Go.Proofs.YtedkkegjiikcmaaDoor
open Go.RowKit Go.Shelf

def linesP : List UInt8 → List (List UInt8 × Bool)
  | [] => []
  | c :: r => if c = 10 then ([], true) :: linesP r else match linesP r with
    | [] => [([c], false)]
    | x :: xs => (c :: x.1, x.2) :: xs
def fullL (p : List UInt8 × Bool) : List UInt8 := if p.2 = true then p.1 ++ [10] else p.1
theorem lines_cons {c : UInt8} (r : List UInt8) (h : c ≠ 10) : linesP (c :: r) = (match linesP r with | [] => [([c], false)] | x :: xs => (c :: x.1, x.2) :: xs) := if_neg h
theorem lines_nl (r : List UInt8) : linesP (10 :: r) = ([], true) :: linesP r := if_pos rfl
theorem lines_nil : ∀ {l : List UInt8}, linesP l = [] → l = []
  | [], _ => rfl
  | c :: r, h => by
    by_cases hc : c = 10
    · rw [hc, lines_nl] at h; exact absurd h (by simp)
    · rw [lines_cons r hc] at h
      cases hr : linesP r with
      | nil => rw [hr] at h; exact absurd h (by simp)
      | cons x xs => rw [hr] at h; exact absurd h (by simp)
theorem lines_full : ∀ l : List UInt8, (linesP l).flatMap fullL = l
  | [] => rfl
  | c :: r => by
    have ih := lines_full r
    by_cases hc : c = 10
    · rw [hc, lines_nl, List.flatMap_cons, ih]; rfl
    · rw [lines_cons r hc]
      cases hr : linesP r with
      | nil =>
        obtain rfl := lines_nil hr
        rfl
      | cons x xs =>
        rw [hr, List.flatMap_cons] at ih
        show fullL (c :: x.1, x.2) ++ xs.flatMap fullL = c :: r
        rw [← ih]
        unfold fullL
        cases x.2 <;> rfl
theorem lines_at : ∀ (l : List UInt8) (j : Nat), (∀ k, k < j → l[k]? ≠ some 10) → l[j]? = some 10 → linesP l = (l.take j, true) :: linesP (l.drop (j + 1))
  | [], j, _, h => by simp at h
  | c :: r, 0, _, h => by
    obtain rfl : c = 10 := by simpa using h
    rw [lines_nl]; rfl
  | c :: r, j + 1, h0, h => by
    have hc : c ≠ 10 := fun e => h0 0 (by omega) (by simp [e])
    have ih := lines_at r j (fun k hk => by have := h0 (k + 1) (by omega); simpa using this) (by simpa using h)
    rw [lines_cons r hc, ih]
    simp
theorem lines_end : ∀ (l : List UInt8), (∀ k : Nat, l[k]? ≠ some 10) → l ≠ [] → linesP l = [(l, false)]
  | [], _, h => absurd rfl h
  | c :: r, h, _ => by
    have hc : c ≠ 10 := fun e => h 0 (by simp [e])
    rw [lines_cons r hc]
    by_cases hr : r = []
    · subst hr; rfl
    · rw [lines_end r (fun k => by have := h (k + 1); simpa using this) hr]
theorem lines_last : ∀ (l : List UInt8), ((linesP l).flatMap fun p => p.1 ++ [10]) = l ∨ ((linesP l).flatMap fun p => p.1 ++ [10]) = l ++ [10]
  | [] => .inl rfl
  | c :: r => by
    have ih := lines_last r
    by_cases hc : c = 10
    · rw [hc, lines_nl, List.flatMap_cons]
      rcases ih with h | h <;> rw [h]
      · exact .inl rfl
      · exact .inr rfl
    · rw [lines_cons r hc]
      cases hr : linesP r with
      | nil =>
        obtain rfl := lines_nil hr
        exact .inr rfl
      | cons x xs =>
        rw [hr, List.flatMap_cons] at ih
        show (c :: x.1) ++ [10] ++ xs.flatMap (fun p => p.1 ++ [10]) = c :: r ∨ (c :: x.1) ++ [10] ++ xs.flatMap (fun p => p.1 ++ [10]) = c :: r ++ [10]
        rcases ih with h | h
        · exact .inl (by rw [← h]; simp)
        · exact .inr (by show _ = c :: (r ++ [10]); rw [← h]; simp)
theorem lines_len : ∀ l : List UInt8, (linesP l).length ≤ l.length
  | [] => Nat.le_refl _
  | c :: r => by
    have ih := lines_len r
    by_cases hc : c = 10
    · rw [hc, lines_nl]; simpa using ih
    · rw [lines_cons r hc]
      cases hr : linesP r with
      | nil => simp
      | cons x xs => rw [hr] at ih; simp only [List.length_cons] at ih ⊢; omega
theorem flat_size {α β : Type} (f : α → List β) : ∀ (l : List α), ∀ p ∈ l, (f p).length ≤ (l.flatMap f).length
  | [], p, hp => absurd hp (by simp)
  | x :: xs, p, hp => by
    rw [List.flatMap_cons, List.length_append]
    rcases List.mem_cons.1 hp with rfl | h
    · omega
    · have := flat_size f xs p h; omega
theorem lines_size (l : List UInt8) (p : List UInt8 × Bool) (hp : p ∈ linesP l) : (fullL p).length ≤ l.length := by
  have h := flat_size fullL (linesP l) p hp
  rwa [lines_full] at h
theorem full_len (p : List UInt8 × Bool) : p.1.length ≤ (fullL p).length := by unfold fullL; split <;> simp
def lineB (p : List UInt8 × Bool) : ByteArray := ⟨p.1.toArray⟩
def pieceB (p : List UInt8 × Bool) : ByteArray := ⟨(fullL p).toArray⟩
def linesB (s : ByteArray) : List ByteArray := (linesP (bl s)).map lineB
theorem lines_step {l : List UInt8} (h : Lib.indexByte l 10 = -1) (h0 : l ≠ []) : linesP l = [(l, false)] := lines_end l (Lib.indexByte_none h) h0
theorem lines_step1 {l : List UInt8} {o : Nat} (h : Lib.indexByte l 10 = o) : linesP l = (l.take o, true) :: linesP (l.drop (o + 1)) ∧ o < l.length ∧ l.take (o + 1) = l.take o ++ [10] := by
  obtain ⟨h1, h2⟩ := Lib.indexByte_some h
  obtain ⟨hlt, hv⟩ := List.getElem?_eq_some_iff.1 h1
  exact ⟨lines_at l o h2 h1, hlt, by rw [List.take_succ_eq_append_getElem hlt, hv]⟩
theorem lines_no : ∀ (l : List UInt8), ∀ p ∈ linesP l, (10 : UInt8) ∉ p.1 ∧ (p.2 = false → p.1 ≠ [])
  | [], p, hp => absurd hp (by simp [linesP])
  | c :: r, p, hp => by
    by_cases hc : c = 10
    · rw [hc, lines_nl] at hp
      rcases List.mem_cons.1 hp with rfl | h
      · exact ⟨by simp, fun h => by cases h⟩
      · exact lines_no r p h
    · rw [lines_cons r hc] at hp
      have ih := lines_no r
      cases hr : linesP r with
      | nil =>
        rw [hr] at hp
        obtain rfl := List.mem_singleton.1 hp
        exact ⟨by simpa using fun e => hc e.symm, fun _ => by simp⟩
      | cons x xs =>
        rw [hr] at hp ih
        rcases List.mem_cons.1 hp with rfl | h
        · have h1 := (ih x (by simp)).1
          exact ⟨fun h => by rcases List.mem_cons.1 h with e | e; exact hc e.symm; exact h1 e, fun _ => by simp⟩
        · exact ih p (by simp [h])
theorem lines_cut_of {l : List UInt8} {k : Nat} (h : k < (linesP l).length) : ((linesP l).getD k ([], false)).2 = true ∨ (((linesP l).getD k ([], false)).1 ≠ [] ∧ ((linesP l).getD k ([], false)).2 = false ∧ ∀ c, ((linesP l).getD k ([], false)).1.getLast? = some c → c ≠ 10) := by
  obtain ⟨h1, h2⟩ := lines_no l _ (List.getElem_mem h)
  rw [List.getD_eq_getElem?_getD, List.getElem?_eq_getElem h]
  show (linesP l)[k].2 = true ∨ _
  generalize (linesP l)[k] = p at *
  cases hp : p.2 with
  | true => exact .inl rfl
  | false =>
    refine .inr ⟨h2 hp, hp, fun c hc e => h1 ?_⟩
    subst e
    exact List.mem_of_getLast? hc
end Go.Proofs.YtedkkegjiikcmaaDoor
namespace Go.Proofs.YtedkkegjiikcmaaDoor
open Go.RowKit Go.Shelf

def SeqC (P : Program) (g : Nat) (lb : Array Value) (encs : Nat → Array Value) (b N : Nat) (w : World) : Prop :=
  ∀ (l : Nat) (J : Nat → World → Prop) (W : World), W.heap[b]? = w.heap[b]? → w.heap.size ≤ W.heap.size →
    (∀ k A v, J k A → J k (A.setCell ⟨b, 0, none⟩ v)) → (∀ k A, J k A → J k A.drew) →
    (∀ k A, J k A → k < N → YieldAt Fence.wide 2 P l (encs k) A fun e A' => e = .returned (.bool true) ∧ J (k + 1) A' ∧ A'.heap[b]? = A.heap[b]?) →
    J 0 W → CallsIn Fence.wide 3 P g (#[.func (.yield l) #[] #[]] ++ lb) W fun e W' => (∃ v, e = .returned v) ∧ J N W'
def goesOn (R : World → Prop) : Exit → Act → World → Prop
  | .normal, _, W => R W
  | _, _, _ => False
theorem rangeFunc_cell {P : Program} {g : Operand} {ps : Array Tmp} {assign body : Code} {Q : Exit → Act → World → Prop} {a : Act} {w : World} {gf : Nat} {lb : Array Value}
    (hg : a.eval g = .func (.func gf) #[] lb) (eg : ∀ args w, (callFunc gf args).run P w = .ok (.enter gf args) w) (b N : Nat) (encs : Nat → Array Value) (hb : b < w.heap.size)
    (hseq : SeqC P gf lb encs b N w) (hps : ∀ k, (encs k).size = ps.size) (I : Nat → World → Prop)
    (hIp : ∀ k A r o o', I k A → w.heap.size ≤ r → A.heap[r]? = some o → o.isCells = false → I k (A.putObj r o')) (hIa : ∀ k A o, I k A → I k (A.alloc o))
    (hIs : ∀ k A v, I k A → I k (A.setCell ⟨b, 0, none⟩ v)) (hId : ∀ k A, I k A → I k A.drew) (h0 : I 0 w) (a₁ : Nat → Act)
    (hassign : ∀ (l k : Nat) (W : World) (K : Act → World → Prop), K (a₁ k) W →
      assign.wpIn (Fence.wide.inRound l) 2 P (Exit.then K (fun _ _ _ => False)) { tmps := (ps.zip (encs k)).foldl (fun t (p, v) => t.setIfInBounds p v) a.tmps, defers := [] } W)
    (hbody : ∀ (l k : Nat) (W : World), I k W → k < N → body.wpIn (Fence.wide.inRound l) 2 P (goesOn fun W' => KeepsOthers W W' ∧ W'.heap[b]? = W.heap[b]? ∧ I (k + 1) W') (a₁ k) W)
    (hdone : ∀ (D : Nat) (W : World), w.heap.size ≤ D → I N W → W.heap[D]? = some (.deferred (some [])) → Q .normal { a with defers := { target := .collected D, args := #[] } :: a.defers } W) :
    (Code.rangeFunc g ps assign body).wpIn Fence.wide 4 P Q a w := by
  refine wpIn_rangeFunc fun fn hfn => ?_
  obtain ⟨rc, hrc⟩ : ∃ rc : LoopState → Loop, rc = fun st => { state := st, pending := none, fn, tmps := a.tmps, params := ps, assign, body, defers := w.heap.size } := ⟨_, rfl⟩
  obtain ⟨W1, hW1⟩ : ∃ W1, W1 = (w.alloc (.deferred (some []))).alloc (.loop (rc .ready)) := ⟨_, rfl⟩
  obtain ⟨d, hd⟩ : ∃ d, d = w.heap.size := ⟨_, rfl⟩
  have hL1 : W1.heap[d + 1]? = some (.loop (rc .ready)) := by
    have := World.alloc_heap_new (w.alloc (.deferred (some []))) (.loop (rc .ready))
    rw [hW1, hd]
    rwa [World.size_alloc] at this
  have hK1 : W1.heap[d]? = some (.deferred (some [])) := by
    rw [hW1, hd]; exact (Below.heap_alloc _ _ _ (by simp)).trans (World.alloc_heap_new w _)
  have hB1 : W1.heap[b]? = w.heap[b]? := by
    rw [hW1]; exact (Below.heap_alloc _ _ _ (by simp; omega)).trans (Below.heap_alloc _ _ _ hb)
  have hz : w.heap.size ≤ W1.heap.size := by rw [hW1]; simp; omega
  have hI1 : I 0 W1 := by rw [hW1]; exact hIa _ _ _ (hIa _ _ _ h0)
  refine ⟨d + 1, [{ target := .collected d, args := #[] }], W1, { target := .fn (.func gf) lb, args := #[.func (.yield (d + 1)) #[] #[]] }, W1, gf,
    #[.func (.yield (d + 1)) #[] #[]] ++ lb, W1, ?_, ?_, fun _ _ => trivial, ?_, fun _ => by decide, ?_⟩
  · rw [hW1, hrc, hd]; exact run_enterLoop_outer _ _ _ _ _
  · simp only [resolve, hg]
    simp [go_sem]
  · simp [invoke, go_sem, eg]
  have far : ∀ (A : World) (v : Value) (r : Nat), d ≤ r → (A.setCell ⟨b, 0, none⟩ v).heap[r]? = A.heap[r]? := fun A v r hr => Below.heap_setCell _ _ _ _ (by show r ≠ b; omega)
  refine (hseq (d + 1) (fun k A => I k A ∧ A.heap[d + 1]? = some (.loop (rc .ready)) ∧ A.heap[d]? = some (.deferred (some []))) W1 hB1 hz
    (fun k A v h => ⟨hIs _ _ _ h.1, (far _ _ _ (by omega)).trans h.2.1, (far _ _ _ (by omega)).trans h.2.2⟩) (fun k A h => ⟨hId _ _ h.1, h.2.1, h.2.2⟩) ?_ ⟨hI1, hL1, hK1⟩).mono ?_
  · rintro k A ⟨hi, hl, hk⟩ hkN
    have hlt : d + 1 < A.heap.size := (Array.getElem?_eq_some_iff.1 hl).1
    have hy := run_yield (P := P) (args := encs k) hl (by rw [hrc]; exact hps k)
    rw [hrc] at hy
    obtain ⟨A2, hA2⟩ : ∃ A2, A2 = A.putObj (d + 1) (.loop { rc .ready with state := .busy }) := ⟨_, rfl⟩
    have hl2 : A2.heap[d + 1]? = some (.loop { rc .ready with state := .busy }) := by rw [hA2]; exact World.putObj_heap_same hlt
    have hk2 : A2.heap[d]? = some (.deferred (some [])) := by rw [hA2]; exact (World.putObj_heap_other (by omega)).trans hk
    have hb2 : A2.heap[b]? = A.heap[b]? := by rw [hA2]; exact World.putObj_heap_other (by omega)
    have hi2 : I k A2 := by rw [hA2]; exact hIp _ _ _ _ _ hi (by omega) hl rfl
    refine ⟨fn, _, assign, body, hy, roundIn_of_wpIn hfn (hassign _ k A _ ⟨A2, by rw [hA2]; exact run_beginRound hl (by rw [hrc]), ?_⟩)⟩
    refine wpIn_mono (hbody _ k A2 hi2 hkN) ?_
    rintro e a3 A3 hp
    cases e with
    | normal =>
      obtain ⟨ho, hb3, hi3⟩ := hp
      have hl3 := ho.same _ _ hl2 rfl
      have hr := run_endRound (P := P) none hl3
      rw [hrc] at hr
      refine ⟨_, _, hr, rfl, ⟨hIp _ _ _ _ _ hi3 (by omega) hl3 rfl, ?_, (World.putObj_heap_other (by omega)).trans (ho.same _ _ hk2 rfl)⟩, (World.putObj_heap_other (by omega)).trans (hb3.trans hb2)⟩
      rw [hrc]
      exact World.putObj_heap_same (Array.getElem?_eq_some_iff.1 hl3).1
    | _ => exact hp.elim
  · rintro e W2 ⟨⟨v, rfl⟩, hi, hl, hk⟩
    have hr := run_endLoop (P := P) hl (by rw [hrc]; simp)
    rw [hrc] at hr
    subst hd
    exact ⟨none, _, hr, hdone _ _ (Nat.le_refl _) (hIp _ _ _ _ _ hi (by omega) hl rfl) ((World.putObj_heap_other (by omega)).trans hk)⟩
end Go.Proofs.YtedkkegjiikcmaaDoor
namespace Go.Proofs.YtedkkegjiikcmaaDoor
open Go.RowKit

structure Tok where
  kind : Int
  text : List UInt8
  col : Int
def Tok.cells (t : Tok) : List Value := [.int .i64 t.kind, .string ⟨t.text.toArray⟩, .int .i64 t.col]
theorem Tok.cells_len (t : Tok) : t.cells.length = 3 := rfl

def bare (l : List UInt8) : List UInt8 := l.takeWhile (fun c => !(c == 35))

def wordOf (l : List UInt8) : List UInt8 := l.takeWhile alnum
def oneTok (l : List UInt8) (p : Nat) : Tok := match l with
  | [] => ⟨0, [], p + 1⟩
  | c :: r =>
    if c.toNat = 46 then ⟨3, [c], p + 1⟩ else if c.toNat = 38 then ⟨5, [c], p + 1⟩
    else if [60, 45].isPrefixOf (c :: r) then ⟨4, [60, 45], p + 1⟩
    else if btw c.toNat 65 90 then ⟨1, wordOf (c :: r), p + 1⟩ else if btw c.toNat 97 122 then ⟨2, wordOf (c :: r), p + 1⟩ else ⟨0, [c], p + 1⟩

def toks : Nat → List UInt8 → Nat → List Tok → List Tok × Int × Int
  | 0, _, _, acc => (acc, 0, 0)
  | _ + 1, [], _, acc => (acc, 0, 0)
  | f + 1, c :: r, p, acc =>
    if c.toNat = 32 then toks f r (p + 1) acc
    else if (oneTok (c :: r) p).kind = 0 then ([], (oneTok (c :: r) p).col, 1)
    else if 8 < (oneTok (c :: r) p).text.length then ([], (oneTok (c :: r) p).col, 4)
    else toks f ((c :: r).drop (oneTok (c :: r) p).text.length) (p + (oneTok (c :: r) p).text.length) (acc ++ [oneTok (c :: r) p])

def tokens (l : List UInt8) : List Tok × Int × Int := if 200 < l.length then ([], 201, 4) else toks (bare l).length (bare l) 0 []

theorem toks_nil (f p : Nat) (acc : List Tok) : toks f [] p acc = (acc, 0, 0) := by cases f <;> rfl
theorem toks_space (f : Nat) (c : UInt8) (r : List UInt8) (p : Nat) (acc : List Tok) (h : c.toNat = 32) : toks (f + 1) (c :: r) p acc = toks f r (p + 1) acc := by simp [toks, h]
theorem toks_bad (f : Nat) (c : UInt8) (r : List UInt8) (p : Nat) (acc : List Tok) (h : ¬ c.toNat = 32) (hk : (oneTok (c :: r) p).kind = 0) : toks (f + 1) (c :: r) p acc = ([], (oneTok (c :: r) p).col, 1) := by simp [toks, h, hk]
theorem toks_long (f : Nat) (c : UInt8) (r : List UInt8) (p : Nat) (acc : List Tok) (h : ¬ c.toNat = 32) (hk : ¬ (oneTok (c :: r) p).kind = 0) (hl : 8 < (oneTok (c :: r) p).text.length) : toks (f + 1) (c :: r) p acc = ([], (oneTok (c :: r) p).col, 4) := by simp [toks, h, hk, hl]
theorem toks_go (f : Nat) (c : UInt8) (r : List UInt8) (p : Nat) (acc : List Tok) (h : ¬ c.toNat = 32) (hk : ¬ (oneTok (c :: r) p).kind = 0) (hl : ¬ 8 < (oneTok (c :: r) p).text.length) :
    toks (f + 1) (c :: r) p acc = toks f ((c :: r).drop (oneTok (c :: r) p).text.length) (p + (oneTok (c :: r) p).text.length) (acc ++ [oneTok (c :: r) p]) := by simp [toks, h, hk]; omega

theorem takeWhile_le (q : UInt8 → Bool) (l : List UInt8) : (l.takeWhile q).length ≤ l.length := by
  induction l with
  | nil => simp
  | cons a r ih => simp only [List.takeWhile]; split <;> simp <;> omega
theorem wordOf_le (l : List UInt8) : (wordOf l).length ≤ l.length := takeWhile_le _ l
theorem bare_le (l : List UInt8) : (bare l).length ≤ l.length := takeWhile_le _ l
theorem takeWhile_take (q : UInt8 → Bool) (l : List UInt8) : l.takeWhile q = l.take (l.takeWhile q).length := by
  induction l with
  | nil => simp
  | cons a r ih => simp only [List.takeWhile]; split <;> simp <;> exact ih
theorem takeWhile_count (q : UInt8 → Bool) (l : List UInt8) (k : Nat) : (l.takeWhile q).length = k ↔ (∀ c ∈ l.take k, q c = true) ∧ k ≤ l.length ∧ ∀ c, l[k]? = some c → q c = false := by
  induction l generalizing k with
  | nil => simp; omega
  | cons a r ih =>
    cases k with
    | zero => simp only [List.takeWhile]; split <;> simp_all
    | succ k =>
      simp only [List.takeWhile]
      split
      · rename_i h
        simp only [List.length_cons, Nat.add_right_cancel_iff, ih k]
        simp [h]
      · rename_i h
        simp [h]

theorem index_one (l : List UInt8) (c : UInt8) : (Lib.index l [c] = -1 ∧ l.takeWhile (fun x => !(x == c)) = l) ∨ (0 ≤ Lib.index l [c] ∧ l.takeWhile (fun x => !(x == c)) = l.take (Lib.index l [c]).toNat) := by
  induction l with
  | nil => left; simp [Lib.index]
  | cons a r ih =>
    by_cases h : a = c
    · subst h
      right
      simp [Lib.index, List.isPrefixOf]
    · have h1 : ([c].isPrefixOf (a :: r)) = false := by simp [List.isPrefixOf, Ne.symm h]
      have h2 : (!(a == c)) = true := by simp [h]
      rcases ih with ⟨e1, e2⟩ | ⟨e1, e2⟩
      · left
        simp [Lib.index, h1, e1, List.takeWhile, h2, e2]
      · right
        have h3 : (Lib.index r [c] == -1) = false := by rw [beq_eq_false_iff_ne]; omega
        simp only [Lib.index, h1, h3, List.takeWhile, h2]
        refine ⟨by simp; omega, ?_⟩
        rw [show ((if false = true then (0 : Int) else if false = true then -1 else Lib.index r [c] + 1)).toNat = (Lib.index r [c]).toNat + 1 by simp; omega]
        simp [e2]
theorem cut_bare (l : List UInt8) : (Lib.cut l [35]).1 = bare l := by
  unfold bare Lib.cut
  rcases index_one l 35 with ⟨e1, e2⟩ | ⟨e1, e2⟩
  · rw [if_neg (by omega), e2]
  · rw [if_pos e1, e2]

theorem isP_A (c : UInt8) : isP 65 90 [65, c] = alnum c := by
  have h1 : btw ((65 : UInt8).toNat : Int) 65 90 = true := by decide
  have h2 : alnum 65 = true := by decide
  simp only [isP, h1, List.all_cons, h2]
  simp
theorem bl_append (a b : ByteArray) : bl (a ++ b) = bl a ++ bl b := by simp [bl]
theorem bl_extract (s : ByteArray) (i j : Nat) : bl (s.extract i j) = ((bl s).take j).drop i := by
  simp [bl, ByteArray.data_extract, List.extract_eq_take_drop, List.drop_take]
theorem bl_one (s : ByteArray) (i : Nat) (h : i < s.size) : bl (s.extract i (i + 1)) = [s[i]] := by
  rw [bl_extract, List.drop_take, bl_drop s i h]; simp
theorem bl_A (s : ByteArray) (i : Nat) (h : i < s.size) : bl ({ data := #[65] } ++ s.extract i (i + 1)) = [65, s[i]] := by
  rw [bl_append, bl_one s i h]; rfl
theorem word_more (l : List UInt8) (k : Nat) (c : UInt8) (h : ∀ x ∈ l.take k, alnum x = true) (hc : l[k]? = some c) (ha : alnum c = true) : ∀ x ∈ l.take (k + 1), alnum x = true := by
  intro x hx
  rw [List.take_add_one, hc] at hx
  simp at hx
  rcases hx with hx | rfl
  · exact h x hx
  · exact ha
theorem word_stop (l : List UInt8) (k : Nat) (h : ∀ x ∈ l.take k, alnum x = true) (hk : k ≤ l.length) (hc : ∀ c, l[k]? = some c → alnum c = false) : (wordOf l).length = k :=
  (takeWhile_count alnum l k).2 ⟨h, hk, hc⟩
theorem bl_at (s : ByteArray) (a k : Nat) (h : a + k < s.size) : ((bl s).drop a)[k]? = some s[a + k] := by
  rw [List.getElem?_drop, List.getElem?_eq_getElem (by simpa using h)]; rfl
theorem bl_at_end (s : ByteArray) (a k : Nat) (h : ¬ a + k < s.size) : ((bl s).drop a)[k]? = none := by
  rw [List.getElem?_drop, List.getElem?_eq_none (by rw [bl_len]; omega)]
theorem size_A (s : ByteArray) (i : Nat) (h : i < s.size) : ({ data := #[65] } ++ s.extract i (i + 1) : ByteArray).size = 2 := by
  rw [← bl_len, bl_A s i h]; rfl
theorem str_eq {x : ByteArray} {l : List UInt8} (h : bl x = l) : x = ⟨l.toArray⟩ := by
  obtain ⟨⟨d⟩⟩ := x
  simp [bl] at h; simp [h]
theorem ssub (s : ByteArray) (a : Nat) : bl (s.extract a s.size) = (bl s).drop a := by
  rw [bl_extract, List.take_of_length_le (by rw [bl_len]; omega)]
theorem sword (s : ByteArray) (a : Nat) : bl (s.extract a (a + (wordOf ((bl s).drop a)).length)) = wordOf ((bl s).drop a) := by
  rw [bl_extract, List.drop_take, show a + (wordOf ((bl s).drop a)).length - a = (wordOf ((bl s).drop a)).length by omega]
  exact (takeWhile_take alnum _).symm
theorem sword_le (s : ByteArray) (a : Nat) (h : a ≤ s.size) : a + (wordOf ((bl s).drop a)).length ≤ s.size := by
  have := wordOf_le ((bl s).drop a); rw [List.length_drop, bl_len] at this; omega
section
variable (s : ByteArray) (k f : Nat) (acc : List Tok)
theorem toks_at_end (h : ¬ k < s.size) : toks f ((bl s).drop k) k acc = (acc, 0, 0) := by rw [bl_drop_end s k h]; exact toks_nil _ _ _
theorem toks_at_space (h : k < s.size) (hc : s[k].toNat = 32) : toks (f + 1) ((bl s).drop k) k acc = toks f ((bl s).drop (k + 1)) (k + 1) acc := by
  rw [bl_drop s k h]; exact toks_space _ _ _ _ _ hc
theorem toks_at_bad (h : k < s.size) (hc : ¬ s[k].toNat = 32) (hk : (oneTok ((bl s).drop k) k).kind = 0) : toks (f + 1) ((bl s).drop k) k acc = ([], (oneTok ((bl s).drop k) k).col, 1) := by
  rw [bl_drop s k h] at hk ⊢; exact toks_bad _ _ _ _ _ hc hk
theorem toks_at_long (h : k < s.size) (hc : ¬ s[k].toNat = 32) (hk : ¬ (oneTok ((bl s).drop k) k).kind = 0) (hl : 8 < (oneTok ((bl s).drop k) k).text.length) :
    toks (f + 1) ((bl s).drop k) k acc = ([], (oneTok ((bl s).drop k) k).col, 4) := by
  rw [bl_drop s k h] at hk hl ⊢; exact toks_long _ _ _ _ _ hc hk hl
theorem toks_at_go (h : k < s.size) (hc : ¬ s[k].toNat = 32) (hk : ¬ (oneTok ((bl s).drop k) k).kind = 0) (hl : ¬ 8 < (oneTok ((bl s).drop k) k).text.length) :
    toks (f + 1) ((bl s).drop k) k acc = toks f ((bl s).drop (k + (oneTok ((bl s).drop k) k).text.length)) (k + (oneTok ((bl s).drop k) k).text.length) (acc ++ [oneTok ((bl s).drop k) k]) := by
  rw [← List.drop_drop]
  rw [bl_drop s k h] at hk hl ⊢; exact toks_go _ _ _ _ _ hc hk hl
theorem oneTok_room (l : List UInt8) (p : Nat) (hk : ¬ (oneTok l p).kind = 0) : 0 < (oneTok l p).text.length ∧ (oneTok l p).text.length ≤ l.length := by
  match l, hk with
  | [], hk => simp [oneTok] at hk
  | c :: r, hk =>
    unfold oneTok at hk ⊢
    by_cases h1 : c.toNat = 46
    · simp [h1]
    · by_cases h2 : c.toNat = 38
      · simp [h2]
      · by_cases h3 : [60, 45].isPrefixOf (c :: r) = true
        · simp only [h1, h2, h3, if_false, if_true]
          have := List.isPrefixOf_iff_prefix.1 h3
          exact ⟨by decide, this.length_le⟩
        · by_cases h4 : btw c.toNat 65 90 = true
          · have ha : alnum c = true := by simp [alnum, h4]
            simp only [h1, h2, h3, h4, if_false, if_true]
            exact ⟨by simp [wordOf, List.takeWhile, ha], wordOf_le _⟩
          · by_cases h5 : btw c.toNat 97 122 = true
            · have ha : alnum c = true := by simp [alnum, h5]
              simp only [h1, h2, h3, h4, h5, if_false, if_true]
              exact ⟨by simp [wordOf, List.takeWhile, ha], wordOf_le _⟩
            · simp [h1, h2, h3, h4, h5] at hk
end
section
variable (s : ByteArray) (a : Nat) (h : a < s.size)
end
end Go.Proofs.YtedkkegjiikcmaaDoor
namespace Go.Proofs.YtedkkegjiikcmaaDoor
open Go.RowKit Go.Shelf

end Go.Proofs.YtedkkegjiikcmaaDoor
namespace Go.Proofs.YtedkkegjiikcmaaDoor
open Go.RowKit

structure Rl where
  o : ByteArray
  n : ByteArray
structure St where
  k : Int
  h : Rl
  who : ByteArray
  a : Rl
  b : Rl
  via : ByteArray
instance : DecidableEq Rl := fun x y => decidable_of_iff (x.o = y.o ∧ x.n = y.n) (by cases x; cases y; simp)
instance : DecidableEq St := fun x y => decidable_of_iff (x.k = y.k ∧ x.h = y.h ∧ x.who = y.who ∧ x.a = y.a ∧ x.b = y.b ∧ x.via = y.via) (by cases x; cases y; simp)

abbrev emp : ByteArray := ⟨#[]⟩
def noR : Rl := ⟨emp, emp⟩
def noS : St := ⟨0, noR, emp, noR, noR, emp⟩
theorem toList_bl (a : ByteArray) : a.toList = bl a := by rw [ByteArray.toList_eq]
theorem bl_inj {a b : ByteArray} : bl a = bl b ↔ a = b := by
  obtain ⟨⟨x⟩⟩ := a; obtain ⟨⟨y⟩⟩ := b; simp [bl]
end Go.Proofs.YtedkkegjiikcmaaDoor
namespace Go.Proofs.YtedkkegjiikcmaaDoor
open Go.RowKit Go.Shelf

theorem names_between (c lo hi : Int) (w : World) :
    Calls Tryd.prog 126 #[.int .u8 c, .int .u8 lo, .int .u8 hi] w fun e w' => e = .returned (.bool (btw c lo hi)) ∧ w = w' := by
  by_cases h : lo ≤ c
  all_goals
    go_enter Tryd.func126, Tryd.ntmps126
    go_wp2
    go_ret
    exact ⟨ret_b (by simp [btw]; omega), rfl⟩
theorem names_small (c : Int) (w : World) :
    Calls Tryd.prog 111 #[.int .u8 c] w fun e w' => e = .returned (.bool (btw c 97 122)) ∧ w = w' := by
  go_enter Tryd.func111, Tryd.ntmps111
  go_wp2_with (go_at_call 126; refine (names_between _ _ _ _).mono ?_; rintro e w' ⟨rfl, rfl⟩)
  go_ret
  exact ⟨rfl, rfl⟩
theorem names_capital (c : Int) (w : World) :
    Calls Tryd.prog 110 #[.int .u8 c] w fun e w' => e = .returned (.bool (btw c 65 90)) ∧ w = w' := by
  go_enter Tryd.func110, Tryd.ntmps110
  go_wp2_with (go_at_call 126; refine (names_between _ _ _ _).mono ?_; rintro e w' ⟨rfl, rfl⟩)
  go_ret
  exact ⟨rfl, rfl⟩
theorem names_digit (c : Int) (w : World) :
    Calls Tryd.prog 125 #[.int .u8 c] w fun e w' => e = .returned (.bool (btw c 48 57)) ∧ w = w' := by
  go_enter Tryd.func125, Tryd.ntmps125
  go_wp2_with (go_at_call 126; refine (names_between _ _ _ _).mono ?_; rintro e w' ⟨rfl, rfl⟩)
  go_ret
  exact ⟨rfl, rfl⟩

theorem alnum_yes1 {c : UInt8} (h : btw c.toNat 97 122 = true) : alnum c = true := by simp [alnum, h]
theorem alnum_yes2 {c : UInt8} (h : btw c.toNat 65 90 = true) : alnum c = true := by simp [alnum, h]
theorem alnum_yes3 {c : UInt8} (h : (!btw c.toNat 48 57) = false) : alnum c = true := by simp at h; simp [alnum, h]
theorem alnum_no {c : UInt8} (h1 : ¬ btw c.toNat 97 122 = true) (h2 : ¬ btw c.toNat 65 90 = true) (h3 : (!btw c.toNat 48 57) = true) : alnum c = false := by simp at h1 h2 h3; simp [alnum, h1, h2, h3]

set_option maxHeartbeats 1000000 in
theorem names_is (g : Nat) (lo hi : Int) (s : ByteArray) (w : World) (hs : s.size ≤ 9223372036854775807)
    (hg : ∀ (c : Int) (w : World), Calls Tryd.prog g #[.int .u8 c] w fun e w' => e = .returned (.bool (btw c lo hi)) ∧ w = w')
    (eg : ∀ (args : Array Value) (w : World), (callFunc g args).run Tryd.prog w = .ok (.enter g args) w) :
    Calls Tryd.prog 109 #[.string s, .func (.func g) #[] #[]] w fun e w' => e = .returned (.bool (isP lo hi (bl s))) ∧ w = w' := by
  have H := Lib.hid hg
  clear hg
  by_cases h0 : 0 < s.size
  · have hn := size_ne s h0
    by_cases h8 : s.size ≤ 8
    · have h8' : decide (8 < (s.size : Int)) = false := by simp; omega
      cases hb : btw s[0].toNat lo hi with
      | false =>
        have HF := Lib.hid (isP_false lo hi s h0 hb)
        go_enter Tryd.func109, Tryd.ntmps109
        go_wp2_with fail
        refine (H.out _ _).mono ?_
        rintro e w' ⟨rfl, rfl⟩
        go_wp2
        go_ret
        exact ⟨ret_b HF.out.symm, rfl⟩
      | true =>
        have HF := Lib.hid (isP_of lo hi s h0 h8 hb)
        go_enter Tryd.func109, Tryd.ntmps109
        go_wp2_with fail
        refine (H.out _ _).mono ?_
        rintro e w' ⟨rfl, rfl⟩
        go_wp2_with fail
        go_loop [24] (fun i => ∃ k : Nat, k ≤ s.size ∧ i = .int .i64 k ∧ (bl s).all alnum = ((bl s).drop k).all alnum) (fun i => s.size - (intOf i).toNat)
        case atStart => exact ⟨0, Nat.zero_le _, rfl, rfl⟩
        case round =>
          obtain ⟨k, hk, rfl, hal⟩ := hrel
          by_cases hlt : k < s.size
          · have HS := Lib.hid (hal.trans (all_step s k hlt))
            clear hal
            go_wp2_with (first | (go_at_call 110; refine (names_capital _ _).mono ?_; rintro e w' ⟨rfl, rfl⟩) | (go_at_call 111; refine (names_small _ _).mono ?_; rintro e w' ⟨rfl, rfl⟩) | (go_at_call 125; refine (names_digit _ _).mono ?_; rintro e w' ⟨rfl, rfl⟩))
            all_goals first
              | exact ⟨⟨k + 1, by omega, by go_num, HS.out.trans (by rw [alnum_yes1 ‹_›]; rfl)⟩, by simp [intOf]; omega⟩
              | exact ⟨⟨k + 1, by omega, by go_num, HS.out.trans (by rw [alnum_yes2 ‹_›]; rfl)⟩, by simp [intOf]; omega⟩
              | exact ⟨⟨k + 1, by omega, by go_num, HS.out.trans (by rw [alnum_yes3 ‹_›]; rfl)⟩, by simp [intOf]; omega⟩
              | (go_ret; exact ⟨ret_b (HF.out.trans (HS.out.trans (by rw [alnum_no ‹_› ‹_› ‹_›]; rfl))).symm, rfl⟩)
          · have HS := Lib.hid (hal.trans (all_end s k hlt))
            clear hal
            go_wp2
            go_ret
            exact ⟨ret_b (HF.out.trans HS.out).symm, rfl⟩
    · have HF := Lib.hid (isP_long lo hi s (by omega))
      have h8' : decide (8 < (s.size : Int)) = true := by simp; omega
      go_enter Tryd.func109, Tryd.ntmps109
      go_wp2
      go_ret
      exact ⟨ret_b HF.out.symm, rfl⟩
  · have hn := size_eq s h0
    have HF := Lib.hid (isP_nil lo hi s h0)
    go_enter Tryd.func109, Tryd.ntmps109
    go_wp2
    go_ret
    exact ⟨ret_b HF.out.symm, rfl⟩
theorem names_IsPrin (s : ByteArray) (w : World) (hs : s.size ≤ 9223372036854775807) :
    Calls Tryd.prog 88 #[.string s] w fun e w' => e = .returned (.bool (isP 65 90 (bl s))) ∧ w = w' := by
  go_enter Tryd.func88, Tryd.ntmps88
  go_wp2_with (go_at_call 109; refine (names_is _ 65 90 _ _ hs names_capital (enters_of Tryd.func110 (by kernel_rfl) rfl)).mono ?_; rintro e w' ⟨rfl, rfl⟩)
  go_ret
  exact ⟨rfl, rfl⟩
end Go.Proofs.YtedkkegjiikcmaaDoor
namespace Go.Proofs.YtedkkegjiikcmaaDoor
open Go.RowKit Go.Shelf

end Go.Proofs.YtedkkegjiikcmaaDoor
