/- Small words that every text of mine uses: results, strings as lists of bytes, one package variable's cell. Plain Lean, no condition. Plain laws on slices in memory: a slice that reads as a list of cells; it is kept by whatever only makes memory. A world for a witness: the settled one, in which the two listed tables hold what their texts lay. What the tokens of a line are, in plain Lean: no program in sight. The reference of layer 1: what its small functions return, for every text. Roles and statements as data, and what may be one; in plain Lean. The package names' small functions: what each returns, for every argument. The package syn: what its small functions return, for every role and statement. -/
import Derived.Test.YtomhekohcadijaaGreatDoorProg
import Derived.WalkKit
import Derived.WalkSpells
import Derived.WalkLawsBesides
import Derived.Lib.Hide
import Derived.Deep.QuietTactic
import Derived.BigQuiet
import Derived.Deep.Draws
import Derived.Deep.DeepFit
import Derived.Deep.DeepCutAuto
import Derived.Deep.LoopGhost
import Derived.Shelf.Abstract
import Derived.Laws.OwnMore
import Derived.OwnWalk
import Derived.StillTailTactics
import Derived.Test.YtomhekohcadijaaGreatDoorCards
import Derived.Test.YtomhekohcadijaaGreatDoorTie
import Derived.ProofKit
import Derived.OpenShut
import Derived.Deep.DeepHandedRow
import Derived.Lib.LaidTab
import Derived.Shelf.Strings.Shaped
import Derived.Test.YtomhekohcadijaaGreatDoorShelf
import Derived.Lib.IndexMore
import Derived.Lib.Bytealg
import Derived.Laws.StructEq
namespace Go.Proofs.YtomhekohcadijaaGreatDoor
open Go.RowKit Go.Shelf

theorem ret_b {a b : Bool} (h : a = b) : Ending.returned (.bool a) = .returned (.bool b) := by rw [h]
theorem ret_s {a b : ByteArray} (h : a = b) : Ending.returned (.string a) = .returned (.string b) := by rw [h]
theorem ret_int {k : IntKind} {a b : Int} (h : a = b) : Ending.returned (.int k a) = .returned (.int k b) := by rw [h]

theorem bcell {W w1 : World} (hb : Below W.heap.size W w1) : (∀ b o, b < W.heap.size → w1.cell? ⟨b, o, none⟩ = W.cell? ⟨b, o, none⟩) ∧ (∀ b o, b < W.heap.size → w1.frozen? ⟨b, o, none⟩ = W.frozen? ⟨b, o, none⟩) :=
  ⟨fun b o h => hb.cell (p := ⟨b, o, none⟩) h, fun b o h => hb.frozen (p := ⟨b, o, none⟩) h⟩
theorem below_drewN {B : Nat} {a w : World} (h : Below B a w) (n : Nat) : Below B a (w.drewN n) := ⟨h.os, h.tape, h.output, h.size, h.block⟩
theorem below_drew {B : Nat} {a w : World} (h : Below B a w) : Below B a w.drew := ⟨h.os, h.tape, h.output, h.size, h.block⟩
theorem nb {b : Bool} (h : ¬ b = true) : b = false := by simpa using h
theorem below_of_drewN {w : World} (n : Nat) : Below w.heap.size w (w.drewN n) := below_drewN (Below.refl _ _) n

abbrev bl (s : ByteArray) : List UInt8 := s.data.toList
theorem bl_len (s : ByteArray) : (bl s).length = s.size := by simp [bl]
theorem bl_drop (s : ByteArray) (k : Nat) (h : k < s.size) : (bl s).drop k = s[k] :: (bl s).drop (k + 1) := by
  rw [List.drop_eq_getElem_cons (by simpa using h)]; rfl
theorem bl_drop_end (s : ByteArray) (k : Nat) (h : ¬ k < s.size) : (bl s).drop k = [] := List.drop_of_length_le (by rw [bl_len]; omega)
theorem size_ne (s : ByteArray) (h : 0 < s.size) : ((s.size : Int) == 0) = false := by
  rw [beq_eq_false_iff_ne]; omega
theorem size_eq (s : ByteArray) (h : ¬ 0 < s.size) : ((s.size : Int) == 0) = true := by
  rw [beq_iff_eq]; omega

def btw (c lo hi : Int) : Bool := decide (lo ≤ c) && decide (c ≤ hi)
def alnum (c : UInt8) : Bool := btw c.toNat 97 122 || btw c.toNat 65 90 || btw c.toNat 48 57
def isP (lo hi : Int) (l : List UInt8) : Bool := match l with
  | [] => false
  | c :: r => decide ((c :: r).length ≤ 8) && btw c.toNat lo hi && (c :: r).all alnum

theorem isP_of (lo hi : Int) (s : ByteArray) (h0 : 0 < s.size) (h8 : s.size ≤ 8) (hb : btw s[0].toNat lo hi = true) : isP lo hi (bl s) = (bl s).all alnum := by
  have := bl_drop s 0 h0
  simp only [List.drop_zero] at this
  have hl : (bl s).length ≤ 8 := by rw [bl_len]; exact h8
  rw [this] at hl ⊢
  simp only [isP, hb, hl]; simp
theorem isP_false (lo hi : Int) (s : ByteArray) (h0 : 0 < s.size) (hb : btw s[0].toNat lo hi = false) : isP lo hi (bl s) = false := by
  have := bl_drop s 0 h0
  simp only [List.drop_zero] at this
  rw [this]; simp [isP, hb]
theorem isP_long (lo hi : Int) (s : ByteArray) (h : 8 < s.size) : isP lo hi (bl s) = false := by
  have h1 := bl_drop s 0 (by omega)
  simp only [List.drop_zero] at h1
  have hl : 8 < (bl s).length := by rw [bl_len]; exact h
  rw [h1] at hl ⊢
  have : ¬ ((s[0] :: (bl s).drop (0 + 1)).length ≤ 8) := by omega
  simp only [isP, this]; simp
theorem isP_nil (lo hi : Int) (s : ByteArray) (h : ¬ 0 < s.size) : isP lo hi (bl s) = false := by
  have : bl s = [] := List.eq_nil_of_length_eq_zero (by rw [bl_len]; omega)
  rw [this]; rfl
theorem all_step (s : ByteArray) (k : Nat) (h : k < s.size) : ((bl s).drop k).all alnum = (alnum s[k] && ((bl s).drop (k + 1)).all alnum) := by
  rw [bl_drop s k h, List.all_cons]
theorem all_end (s : ByteArray) (k : Nat) (h : ¬ k < s.size) : ((bl s).drop k).all alnum = true := by
  rw [bl_drop_end s k h]; rfl
end Go.Proofs.YtomhekohcadijaaGreatDoor
namespace Go.Proofs.YtomhekohcadijaaGreatDoor
open Go.RowKit Go.Shelf

def Sl (w : World) (size : Nat) (v : Value) (n : Nat) (xs : List Value) : Prop :=
  xs.length = n * size ∧ n ≤ maxLen ∧
  ((v = .slice none 0 0 ∧ n = 0) ∨
   ∃ b off cap, v = .slice (some ⟨b, off, none⟩) n cap ∧ n ≤ cap ∧ cap ≤ maxLen ∧ b < w.heap.size ∧ ∀ j u, xs[j]? = some u → w.cell? ⟨b, off + j, none⟩ = some u)

section
variable {w w' : World} {size n : Nat} {v : Value} {xs : List Value}
theorem Sl.len (h : Sl w size v n xs) : xs.length = n * size := h.1
theorem Sl.max (h : Sl w size v n xs) : n ≤ 9223372036854775807 := by have := h.2.1; simpa [maxLen] using this
theorem Sl.below (h : Sl w size v n xs) (hb : Below w.heap.size w w') : Sl w' size v n xs := by
  refine ⟨h.1, h.2.1, ?_⟩
  rcases h.2.2 with h0 | ⟨b, off, cap, hv, hc, hm, hlt, hx⟩
  · exact .inl h0
  · exact .inr ⟨b, off, cap, hv, hc, hm, Nat.lt_of_lt_of_le hlt hb.size, fun j u hu => (hb.cell (p := ⟨b, off + j, none⟩) hlt).trans (hx j u hu)⟩
theorem Sl.nil (w : World) (size : Nat) : Sl w size (.slice none 0 0) 0 [] := ⟨by simp, by simp [maxLen], .inl ⟨rfl, rfl⟩⟩
theorem Sl.of_own {base : Nat} {e : TypeId} (h : w.ownsRow base e size v n xs) : Sl w size v n xs := by
  rcases h.2 with ⟨rfl, rfl⟩ | ⟨g, cap, cur, rfl, hb, hg, hnc, hm, hs, ht⟩
  · exact ⟨h.1, by simp [maxLen], .inl ⟨rfl, rfl⟩⟩
  · refine ⟨h.1, Nat.le_trans hnc hm, .inr ⟨g, 0, cap, rfl, hnc, hm, (Array.getElem?_eq_some_iff.1 hg).1, fun j u hu => ?_⟩⟩
    have := h.cells (g := g) rfl j u hu
    rw [show (⟨g, 0, none⟩ : Addr).add j = ⟨g, 0 + j, none⟩ by unfold Addr.add; split <;> simp_all] at this
    exact this
theorem Sl.pos (h : Sl w size v n xs) (h0 : 0 < n) :
    ∃ b off cap, v = .slice (some ⟨b, off, none⟩) n cap ∧ n ≤ cap ∧ cap ≤ 9223372036854775807 ∧ b < w.heap.size ∧ ∀ j u, xs[j]? = some u → w.cell? ⟨b, off + j, none⟩ = some u := by
  rcases h.2.2 with ⟨_, hn⟩ | ⟨b, off, cap, hv, hc, hm, hlt, hx⟩
  · omega
  · exact ⟨b, off, cap, hv, hc, by simpa [maxLen] using hm, hlt, hx⟩
theorem Sl.form (h : Sl w size v n xs) : ∃ (a : Option Addr) (cap : Nat), v = .slice a n cap := by
  rcases h.2.2 with ⟨hv, hn⟩ | ⟨b, off, cap, hv, _⟩
  · exact ⟨none, 0, by rw [hv, hn]⟩
  · exact ⟨_, _, hv⟩
end

theorem grown_of_below {w w' : World} (h : Below w.heap.size w w') (row : Option Nat) : w.grownBy w' row := ⟨h.os, h.tape, h.output, h.size, fun i hi _ => h.block i hi⟩
theorem own_below {w w' : World} {base size n : Nat} {e : TypeId} {v : Value} {xs : List Value} (h : w.ownsRow base e size v n xs) (hb : Below w.heap.size w w') : w'.ownsRow base e size v n xs := by
  refine h.kept (grown_of_below hb none) ?_
  cases hv : v.ownBlock <;> simp
theorem own_ne {w : World} {base size n g : Nat} {e : TypeId} {v : Value} {xs : List Value} (h : w.ownsRow base e size v n xs) (hg : w.heap.size ≤ g) : some g ≠ v.ownBlock := by
  intro he
  have := (h.lt g he.symm).2
  omega
theorem grown_cell {w w1 w2 : World} {base size n : Nat} {e : TypeId} {v : Value} {xs : List Value} (h : w.ownsRow base e size v n xs) (hgr : w1.grownBy w2 v.ownBlock) {g o : Nat} {u : Value}
    (hg : w.heap.size ≤ g) (hc : w1.cell? ⟨g, o, none⟩ = some u) : w2.cell? ⟨g, o, none⟩ = some u := hgr.cell hc (own_ne h hg)
theorem own_form {w : World} {base size n : Nat} {e : TypeId} {v : Value} {xs : List Value} (h : w.ownsRow base e size v n xs) : ∃ a cap, v = .slice a n cap := by
  rcases h.2 with ⟨rfl, rfl⟩ | ⟨g, cap, cur, rfl, _⟩
  · exact ⟨_, _, rfl⟩
  · exact ⟨_, _, rfl⟩

theorem cells_new (w : World) (cs : List Value) (t : TypeId) (g : Nat) (hg : g = w.heap.size) : ∀ j u, cs[j]? = some u → (w.alloc (.cells cs.toArray t)).cell? ((⟨g, 0, none⟩ : Addr).add j) = some u := by
  intro j u hu
  subst hg
  have h := heap_alloc_new w (.cells cs.toArray t)
  have hadd : (⟨w.heap.size, 0, none⟩ : Addr).add j = ⟨w.heap.size, j, none⟩ := by unfold Addr.add; split <;> simp_all
  rw [hadd, cell_of_row _ _ j _ t (0, 0) h]
  simpa using hu

theorem heap_new1 (w : World) (o : Obj) : (w.alloc o).heap[w.heap.size]? = some o := heap_alloc_new w o
theorem heap_new2 (w : World) (o1 o2 : Obj) : ((w.alloc o1).alloc o2).heap[w.heap.size + 1]? = some o2 := by
  have := heap_alloc_new (w.alloc o1) o2
  simpa using this
theorem app_own {P : Program} {w : World} {ops : Array Oper} {rest : List Oper} {o : Oper} {a : Act} {Q : Exit → Act → World → Prop} {t e : TypeId} {z : Value} {size bytes : Nat}
    (ht : P.underlying t = some (.slice e)) (hinfo : (P.info? e).map (fun i => (i.zero, i.size, i.bytes)) = some (some z, size, bytes)) (hzs : z.cells.size = size) (hsz : 0 < size) (hby : bytes ≤ 1000)
    (hgd : o.guard = none) (s x : Operand) (ho : o.op = .call { callee := .builtin .append, args := #[s, x], argTypes := #[t, t] })
    (B : Nat) {v : Value} {n : Nat} {xs : List Value} (hs : a.eval s = v) (hown : w.ownsRow B e size v n xs)
    {g : Nat} (cs : List Value) (hx : a.eval x = .slice (some ⟨g, 0, none⟩) 1 1) (hc : w.heap[g]? = some (.cells cs.toArray e (0, 0))) (hl : cs.length = size) (h1 : ∀ u ∈ cs, u.oneCell' = true)
    (hn : n ≤ 100000000000) (hB : B ≤ w.heap.size)
    (h : ∀ a' cap' w', w'.ownsRow B e size (.slice a' (n + 1) cap') (n + 1) (xs ++ cs) → w.grownBy w' v.ownBlock → wpList P ops Q rest (a.put o.dst (.slice a' (n + 1) cap')) w') : wpList P ops Q (o :: rest) a w := by
  obtain ⟨i, hi, hz0, hz1, hz2⟩ := info_parts hinfo
  have hb : (n + 1) * bytes ≤ 140737488355328 := Nat.le_trans (Nat.mul_le_mul (Nat.le_refl _) hby) (by omega)
  refine wpList_append_own _ hgd s x t ho B e i z size bytes ht hi hz0 hz1 hz2 hzs hsz v n xs hs hown ⟨g, 0, none⟩ 1 1 cs hx (by omega) ?_ h1 (by simp only [maxLen]; omega) hb hB ?_
  · intro j u hu
    have hadd : (⟨g, 0, none⟩ : Addr).add j = ⟨g, j, none⟩ := by unfold Addr.add; split <;> simp_all
    rw [hadd, cell_of_row _ g j _ e (0, 0) hc]
    simpa using hu
  · intro v' w' h1 h2 _
    obtain ⟨a', cap', rfl⟩ := own_form h1
    exact h a' cap' w' h1 h2

theorem region_tail {P : Program} {id : Nat} {Q : Exit → Act → World → Prop} {a : Act} {w : World} {l : List Oper} (n : Nat) (hm : P.follows .mixedOrders = true) (hB : Region.lexTailB .any l.toArray n = true)
    (h : wpStill P l.toArray w.drew (fun a' => wpList P l.toArray Q (l.drop n) a' w.drew) (l.take n) a) : (Code.region id l.toArray true).wp P Q a w :=
  wp_region_still_tail n hm hB h

theorem cell_set_same (W : World) (b o : Nat) (v : Value) (h : (W.cell? ⟨b, o, none⟩).isSome = true) : (W.setCell ⟨b, o, none⟩ v).cell? ⟨b, o, none⟩ = some v := by
  cases hh : W.heap[b]? with
  | none => simp [World.cell?, hh] at h
  | some ob =>
    cases ob with
    | cells c e fz =>
      simp [World.cell?, hh] at h
      simp [World.cell?, World.setCell, Array.getElem?_modify, hh, h]
    | _ => simp [World.cell?, hh] at h

theorem flat_len {α : Type} (enc : α → List Value) (k : Nat) (hk : ∀ x, (enc x).length = k) (l : List α) : (l.flatMap enc).length = l.length * k := by
  induction l with
  | nil => simp
  | cons a r ih => simp [List.flatMap_cons, hk, ih, Nat.add_mul, Nat.add_comm]
theorem flat_get {α : Type} (enc : α → List Value) (k : Nat) (hk : ∀ x, (enc x).length = k) (l : List α) (i f : Nat) (hf : f < k) (x : α) (hx : l[i]? = some x) :
    (l.flatMap enc)[i * k + f]? = (enc x)[f]? := by
  induction l generalizing i with
  | nil => simp at hx
  | cons a r ih =>
    cases i with
    | zero =>
      simp at hx; subst hx
      rw [List.flatMap_cons, List.getElem?_append_left (by rw [hk]; omega)]
      simp
    | succ i =>
      simp at hx
      rw [List.flatMap_cons, List.getElem?_append_right (by rw [hk, Nat.add_mul]; omega), hk]
      rw [show (i + 1) * k + f - k = i * k + f by rw [Nat.add_mul]; omega]
      exact ih i hx

def Gl (w : World) : Prop := ∃ m : Int, w.cell? ⟨0, 0, none⟩ = some (.int .i64 m)
theorem Gl.below {w w' : World} (h : Gl w) (hb : Below w.heap.size w w') : Gl w' := by
  obtain ⟨m, hm⟩ := h
  exact ⟨m, (hb.cell (p := ⟨0, 0, none⟩) (World.block_lt_of_cell? w _ hm)).trans hm⟩
end Go.Proofs.YtomhekohcadijaaGreatDoor
namespace Go.Proofs.YtomhekohcadijaaGreatDoor
open Go.ChangeShapes Go.WideShapes Go.ChangeAt Go.RowKit

def litV : DataW Unit → Value
  | .lit (.int k n) => .int k n
  | _ => undef
def aggL : DataW Unit → List (DataW Unit)
  | .agg l => l
  | _ => []
def firstCells : Array Value := ((aggL Rows.laid_unicode_utf8_first).map litV).toArray
def acceptCells : Array Value := ((aggL (Rows.laid_unicode_utf8_acceptRanges (H := Unit))).flatMap fun d => (aggL d).map litV).toArray
def layCells (cs : Array Value) : Obj → Obj
  | .cells _ t frozen => .cells cs t frozen
  | o => o
noncomputable def laidWorld (os : Os) : World :=
  { World.holding Tryz.prog os ⟨#[], #[], []⟩ with heap := ((World.holding Tryz.prog os ⟨#[], #[], []⟩).heap.modify 1 (layCells firstCells)).modify 2 (layCells acceptCells) }
theorem gl_of_shaped (w : World) (h : w.ShapedOpen Tryz.prog) : Gl w :=
  Go.Proofs.cell_of_shapedOpen_int (zero := #[.int .i64 0]) (t := 3) h (of_decide_eq_true (by kernel_rfl)) (by kernel_rfl) rfl (by kernel_rfl) (by kernel_rfl) Tryz.underlying3
theorem own : ownKnob Tryz.prog.godebug = none := by kernel_rfl
end Go.Proofs.YtomhekohcadijaaGreatDoor
namespace Go.Proofs.YtomhekohcadijaaGreatDoor
open Go.RowKit

structure Tok where
  kind : Int
  text : List UInt8
  col : Int
def Tok.cells (t : Tok) : List Value := [.int .i64 t.kind, .string ⟨t.text.toArray⟩, .int .i64 t.col]
theorem Tok.cells_len (t : Tok) : t.cells.length = 3 := rfl

def bare (l : List UInt8) : List UInt8 := l.takeWhile (fun c => !(c == 35))

def wordOf (l : List UInt8) : List UInt8 := l.takeWhile alnum
def oneTok (l : List UInt8) (p : Nat) : Tok := match l with
  | [] => ⟨0, [], p + 1⟩
  | c :: r =>
    if c.toNat = 46 then ⟨3, [c], p + 1⟩ else if c.toNat = 38 then ⟨5, [c], p + 1⟩
    else if [60, 45].isPrefixOf (c :: r) then ⟨4, [60, 45], p + 1⟩
    else if btw c.toNat 65 90 then ⟨1, wordOf (c :: r), p + 1⟩ else if btw c.toNat 97 122 then ⟨2, wordOf (c :: r), p + 1⟩ else ⟨0, [c], p + 1⟩

def toks : Nat → List UInt8 → Nat → List Tok → List Tok × Int × Int
  | 0, _, _, acc => (acc, 0, 0)
  | _ + 1, [], _, acc => (acc, 0, 0)
  | f + 1, c :: r, p, acc =>
    if c.toNat = 32 then toks f r (p + 1) acc
    else if (oneTok (c :: r) p).kind = 0 then ([], (oneTok (c :: r) p).col, 1)
    else if 8 < (oneTok (c :: r) p).text.length then ([], (oneTok (c :: r) p).col, 4)
    else toks f ((c :: r).drop (oneTok (c :: r) p).text.length) (p + (oneTok (c :: r) p).text.length) (acc ++ [oneTok (c :: r) p])

def tokens (l : List UInt8) : List Tok × Int × Int := if 200 < l.length then ([], 201, 4) else toks (bare l).length (bare l) 0 []

theorem toks_nil (f p : Nat) (acc : List Tok) : toks f [] p acc = (acc, 0, 0) := by cases f <;> rfl
theorem toks_space (f : Nat) (c : UInt8) (r : List UInt8) (p : Nat) (acc : List Tok) (h : c.toNat = 32) : toks (f + 1) (c :: r) p acc = toks f r (p + 1) acc := by simp [toks, h]
theorem toks_bad (f : Nat) (c : UInt8) (r : List UInt8) (p : Nat) (acc : List Tok) (h : ¬ c.toNat = 32) (hk : (oneTok (c :: r) p).kind = 0) : toks (f + 1) (c :: r) p acc = ([], (oneTok (c :: r) p).col, 1) := by simp [toks, h, hk]
theorem toks_long (f : Nat) (c : UInt8) (r : List UInt8) (p : Nat) (acc : List Tok) (h : ¬ c.toNat = 32) (hk : ¬ (oneTok (c :: r) p).kind = 0) (hl : 8 < (oneTok (c :: r) p).text.length) : toks (f + 1) (c :: r) p acc = ([], (oneTok (c :: r) p).col, 4) := by simp [toks, h, hk, hl]
theorem toks_go (f : Nat) (c : UInt8) (r : List UInt8) (p : Nat) (acc : List Tok) (h : ¬ c.toNat = 32) (hk : ¬ (oneTok (c :: r) p).kind = 0) (hl : ¬ 8 < (oneTok (c :: r) p).text.length) :
    toks (f + 1) (c :: r) p acc = toks f ((c :: r).drop (oneTok (c :: r) p).text.length) (p + (oneTok (c :: r) p).text.length) (acc ++ [oneTok (c :: r) p]) := by simp [toks, h, hk]; omega

theorem takeWhile_le (q : UInt8 → Bool) (l : List UInt8) : (l.takeWhile q).length ≤ l.length := by
  induction l with
  | nil => simp
  | cons a r ih => simp only [List.takeWhile]; split <;> simp <;> omega
theorem wordOf_le (l : List UInt8) : (wordOf l).length ≤ l.length := takeWhile_le _ l
theorem bare_le (l : List UInt8) : (bare l).length ≤ l.length := takeWhile_le _ l
theorem takeWhile_take (q : UInt8 → Bool) (l : List UInt8) : l.takeWhile q = l.take (l.takeWhile q).length := by
  induction l with
  | nil => simp
  | cons a r ih => simp only [List.takeWhile]; split <;> simp <;> exact ih
theorem takeWhile_count (q : UInt8 → Bool) (l : List UInt8) (k : Nat) : (l.takeWhile q).length = k ↔ (∀ c ∈ l.take k, q c = true) ∧ k ≤ l.length ∧ ∀ c, l[k]? = some c → q c = false := by
  induction l generalizing k with
  | nil => simp; omega
  | cons a r ih =>
    cases k with
    | zero => simp only [List.takeWhile]; split <;> simp_all
    | succ k =>
      simp only [List.takeWhile]
      split
      · rename_i h
        simp only [List.length_cons, Nat.add_right_cancel_iff, ih k]
        simp [h]
      · rename_i h
        simp [h]

theorem index_one (l : List UInt8) (c : UInt8) : (Lib.index l [c] = -1 ∧ l.takeWhile (fun x => !(x == c)) = l) ∨ (0 ≤ Lib.index l [c] ∧ l.takeWhile (fun x => !(x == c)) = l.take (Lib.index l [c]).toNat) := by
  induction l with
  | nil => left; simp [Lib.index]
  | cons a r ih =>
    by_cases h : a = c
    · subst h
      right
      simp [Lib.index, List.isPrefixOf]
    · have h1 : ([c].isPrefixOf (a :: r)) = false := by simp [List.isPrefixOf, Ne.symm h]
      have h2 : (!(a == c)) = true := by simp [h]
      rcases ih with ⟨e1, e2⟩ | ⟨e1, e2⟩
      · left
        simp [Lib.index, h1, e1, List.takeWhile, h2, e2]
      · right
        have h3 : (Lib.index r [c] == -1) = false := by rw [beq_eq_false_iff_ne]; omega
        simp only [Lib.index, h1, h3, List.takeWhile, h2]
        refine ⟨by simp; omega, ?_⟩
        rw [show ((if false = true then (0 : Int) else if false = true then -1 else Lib.index r [c] + 1)).toNat = (Lib.index r [c]).toNat + 1 by simp; omega]
        simp [e2]
theorem cut_bare (l : List UInt8) : (Lib.cut l [35]).1 = bare l := by
  unfold bare Lib.cut
  rcases index_one l 35 with ⟨e1, e2⟩ | ⟨e1, e2⟩
  · rw [if_neg (by omega), e2]
  · rw [if_pos e1, e2]

theorem isP_A (c : UInt8) : isP 65 90 [65, c] = alnum c := by
  have h1 : btw ((65 : UInt8).toNat : Int) 65 90 = true := by decide
  have h2 : alnum 65 = true := by decide
  simp only [isP, h1, List.all_cons, h2]
  simp
theorem bl_append (a b : ByteArray) : bl (a ++ b) = bl a ++ bl b := by simp [bl]
theorem bl_extract (s : ByteArray) (i j : Nat) : bl (s.extract i j) = ((bl s).take j).drop i := by
  simp [bl, ByteArray.data_extract, List.extract_eq_take_drop, List.drop_take]
theorem bl_one (s : ByteArray) (i : Nat) (h : i < s.size) : bl (s.extract i (i + 1)) = [s[i]] := by
  rw [bl_extract, List.drop_take, bl_drop s i h]; simp
theorem bl_A (s : ByteArray) (i : Nat) (h : i < s.size) : bl ({ data := #[65] } ++ s.extract i (i + 1)) = [65, s[i]] := by
  rw [bl_append, bl_one s i h]; rfl
theorem word_more (l : List UInt8) (k : Nat) (c : UInt8) (h : ∀ x ∈ l.take k, alnum x = true) (hc : l[k]? = some c) (ha : alnum c = true) : ∀ x ∈ l.take (k + 1), alnum x = true := by
  intro x hx
  rw [List.take_add_one, hc] at hx
  simp at hx
  rcases hx with hx | rfl
  · exact h x hx
  · exact ha
theorem word_stop (l : List UInt8) (k : Nat) (h : ∀ x ∈ l.take k, alnum x = true) (hk : k ≤ l.length) (hc : ∀ c, l[k]? = some c → alnum c = false) : (wordOf l).length = k :=
  (takeWhile_count alnum l k).2 ⟨h, hk, hc⟩
theorem bl_at (s : ByteArray) (a k : Nat) (h : a + k < s.size) : ((bl s).drop a)[k]? = some s[a + k] := by
  rw [List.getElem?_drop, List.getElem?_eq_getElem (by simpa using h)]; rfl
theorem bl_at_end (s : ByteArray) (a k : Nat) (h : ¬ a + k < s.size) : ((bl s).drop a)[k]? = none := by
  rw [List.getElem?_drop, List.getElem?_eq_none (by rw [bl_len]; omega)]
theorem size_A (s : ByteArray) (i : Nat) (h : i < s.size) : ({ data := #[65] } ++ s.extract i (i + 1) : ByteArray).size = 2 := by
  rw [← bl_len, bl_A s i h]; rfl
theorem str_eq {x : ByteArray} {l : List UInt8} (h : bl x = l) : x = ⟨l.toArray⟩ := by
  obtain ⟨⟨d⟩⟩ := x
  simp [bl] at h; simp [h]
theorem ssub (s : ByteArray) (a : Nat) : bl (s.extract a s.size) = (bl s).drop a := by
  rw [bl_extract, List.take_of_length_le (by rw [bl_len]; omega)]
theorem sword (s : ByteArray) (a : Nat) : bl (s.extract a (a + (wordOf ((bl s).drop a)).length)) = wordOf ((bl s).drop a) := by
  rw [bl_extract, List.drop_take, show a + (wordOf ((bl s).drop a)).length - a = (wordOf ((bl s).drop a)).length by omega]
  exact (takeWhile_take alnum _).symm
theorem sword_le (s : ByteArray) (a : Nat) (h : a ≤ s.size) : a + (wordOf ((bl s).drop a)).length ≤ s.size := by
  have := wordOf_le ((bl s).drop a); rw [List.length_drop, bl_len] at this; omega
section
variable (s : ByteArray) (k f : Nat) (acc : List Tok)
theorem toks_at_end (h : ¬ k < s.size) : toks f ((bl s).drop k) k acc = (acc, 0, 0) := by rw [bl_drop_end s k h]; exact toks_nil _ _ _
theorem toks_at_space (h : k < s.size) (hc : s[k].toNat = 32) : toks (f + 1) ((bl s).drop k) k acc = toks f ((bl s).drop (k + 1)) (k + 1) acc := by
  rw [bl_drop s k h]; exact toks_space _ _ _ _ _ hc
theorem toks_at_bad (h : k < s.size) (hc : ¬ s[k].toNat = 32) (hk : (oneTok ((bl s).drop k) k).kind = 0) : toks (f + 1) ((bl s).drop k) k acc = ([], (oneTok ((bl s).drop k) k).col, 1) := by
  rw [bl_drop s k h] at hk ⊢; exact toks_bad _ _ _ _ _ hc hk
theorem toks_at_long (h : k < s.size) (hc : ¬ s[k].toNat = 32) (hk : ¬ (oneTok ((bl s).drop k) k).kind = 0) (hl : 8 < (oneTok ((bl s).drop k) k).text.length) :
    toks (f + 1) ((bl s).drop k) k acc = ([], (oneTok ((bl s).drop k) k).col, 4) := by
  rw [bl_drop s k h] at hk hl ⊢; exact toks_long _ _ _ _ _ hc hk hl
theorem toks_at_go (h : k < s.size) (hc : ¬ s[k].toNat = 32) (hk : ¬ (oneTok ((bl s).drop k) k).kind = 0) (hl : ¬ 8 < (oneTok ((bl s).drop k) k).text.length) :
    toks (f + 1) ((bl s).drop k) k acc = toks f ((bl s).drop (k + (oneTok ((bl s).drop k) k).text.length)) (k + (oneTok ((bl s).drop k) k).text.length) (acc ++ [oneTok ((bl s).drop k) k]) := by
  rw [← List.drop_drop]
  rw [bl_drop s k h] at hk hl ⊢; exact toks_go _ _ _ _ _ hc hk hl
theorem oneTok_room (l : List UInt8) (p : Nat) (hk : ¬ (oneTok l p).kind = 0) : 0 < (oneTok l p).text.length ∧ (oneTok l p).text.length ≤ l.length := by
  match l, hk with
  | [], hk => simp [oneTok] at hk
  | c :: r, hk =>
    unfold oneTok at hk ⊢
    by_cases h1 : c.toNat = 46
    · simp [h1]
    · by_cases h2 : c.toNat = 38
      · simp [h2]
      · by_cases h3 : [60, 45].isPrefixOf (c :: r) = true
        · simp only [h1, h2, h3, if_false, if_true]
          have := List.isPrefixOf_iff_prefix.1 h3
          exact ⟨by decide, this.length_le⟩
        · by_cases h4 : btw c.toNat 65 90 = true
          · have ha : alnum c = true := by simp [alnum, h4]
            simp only [h1, h2, h3, h4, if_false, if_true]
            exact ⟨by simp [wordOf, List.takeWhile, ha], wordOf_le _⟩
          · by_cases h5 : btw c.toNat 97 122 = true
            · have ha : alnum c = true := by simp [alnum, h5]
              simp only [h1, h2, h3, h4, h5, if_false, if_true]
              exact ⟨by simp [wordOf, List.takeWhile, ha], wordOf_le _⟩
            · simp [h1, h2, h3, h4, h5] at hk
end
section
variable (s : ByteArray) (a : Nat) (h : a < s.size)
end
end Go.Proofs.YtomhekohcadijaaGreatDoor
namespace Go.Proofs.YtomhekohcadijaaGreatDoor
open Go.RowKit Go.Shelf

def letterI (c : Int) : Bool := btw c 48 57 || btw c 65 90 || btw c 97 122
theorem letterI_alnum (c : UInt8) : letterI c.toNat = alnum c := by
  simp only [letterI, alnum]
  cases btw c.toNat 48 57 <;> cases btw c.toNat 65 90 <;> cases btw c.toNat 97 122 <;> rfl
theorem letterI_eq (c : Int) : letterI c = decide ((48 ≤ c ∧ c ≤ 57) ∨ (65 ≤ c ∧ c ≤ 90) ∨ (97 ≤ c ∧ c ≤ 122)) := by
  simp [letterI, btw, Bool.decide_or, Bool.decide_and, Bool.or_assoc]
theorem ref1_letter (c : Int) (w : World) : Calls Tryz.prog 230 #[.int .u8 c] w fun e w' => e = .returned (.bool (letterI c)) ∧ w = w' := by
  have hc : c < 48 ∨ (48 ≤ c ∧ c ≤ 57) ∨ (57 < c ∧ c < 65) ∨ (65 ≤ c ∧ c ≤ 90) ∨ (90 < c ∧ c < 97) ∨ (97 ≤ c ∧ c ≤ 122) ∨ 122 < c := by omega
  rcases hc with hc | ⟨hc, hd⟩ | ⟨hc, hd⟩ | ⟨hc, hd⟩ | ⟨hc, hd⟩ | ⟨hc, hd⟩ | hc
  all_goals
    go_enter Tryz.func230, Tryz.ntmps230
    go_wp2
    all_goals
      go_ret
      exact ⟨ret_b (by rw [letterI_eq]; first | exact (decide_eq_true (by omega)).symm | exact (decide_eq_false (by omega)).symm | (rw [decide_eq_decide]; omega) | (simp only [← Bool.decide_or, decide_eq_decide]; omega)), rfl⟩

set_option maxHeartbeats 1000000 in
theorem ref1_is (lo hi : Int) (s : ByteArray) (w : World) (hs : s.size ≤ 9223372036854775807) :
    Calls Tryz.prog 166 #[.string s, .int .u8 lo, .int .u8 hi] w fun e w' => e = .returned (.bool (isP lo hi (bl s))) ∧ w = w' := by
  by_cases h0 : 0 < s.size
  · have h1 : decide ((s.size : Int) < 1) = false := by simp; omega
    by_cases h8 : s.size ≤ 8
    · have h8' : decide (8 < (s.size : Int)) = false := by simp; omega
      by_cases hlo : (s[0].toNat : Int) < lo
      · have HF := Lib.hid (isP_false lo hi s h0 (by simp [btw]; omega))
        have d1 : decide ((s[0].toNat : Int) < lo) = true := by simp; omega
        go_enter Tryz.func166, Tryz.ntmps166
        go_wp2
        go_ret
        exact ⟨ret_b HF.out.symm, rfl⟩
      · have d1 : decide ((s[0].toNat : Int) < lo) = false := by simp; omega
        by_cases hhi : hi < (s[0].toNat : Int)
        · have HF := Lib.hid (isP_false lo hi s h0 (by simp [btw]; omega))
          have d2 : decide (hi < (s[0].toNat : Int)) = true := by simp; omega
          go_enter Tryz.func166, Tryz.ntmps166
          go_wp2
          go_ret
          exact ⟨ret_b HF.out.symm, rfl⟩
        · have HF := Lib.hid (isP_of lo hi s h0 h8 (by simp [btw]; omega))
          have d2 : decide (hi < (s[0].toNat : Int)) = false := by simp; omega
          go_enter Tryz.func166, Tryz.ntmps166
          go_wp2
          go_loop [7] (fun i => ∃ k : Nat, k ≤ s.size ∧ i = .int .i64 k ∧ (bl s).all alnum = ((bl s).drop k).all alnum) (fun i => s.size - (intOf i).toNat)
          case atStart => exact ⟨0, Nat.zero_le _, rfl, rfl⟩
          case round =>
            obtain ⟨k, hk, rfl, hal⟩ := hrel
            by_cases hlt : k < s.size
            · have HS := Lib.hid (hal.trans (all_step s k hlt))
              have HL := Lib.hid (fun W => ref1_letter s[k].toNat W)
              have HA := Lib.hid (letterI_alnum s[k])
              clear hal
              cases ha : alnum s[k] with
              | true =>
                rw [ha] at HS HA
                clear ha
                go_wp2_with (go_at_call 230; refine (HL.out _).mono ?_; rw [HA.out]; rintro e w' ⟨rfl, rfl⟩)
                exact ⟨⟨k + 1, by omega, by go_num, HS.out⟩, by simp [intOf]; omega⟩
              | false =>
                rw [ha] at HS HA
                clear ha
                go_wp2_with (go_at_call 230; refine (HL.out _).mono ?_; rw [HA.out]; rintro e w' ⟨rfl, rfl⟩)
                go_ret
                exact ⟨ret_b (HF.out.trans HS.out).symm, rfl⟩
            · have HS := Lib.hid (hal.trans (all_end s k hlt))
              clear hal
              go_wp2
              go_ret
              exact ⟨ret_b (HF.out.trans HS.out).symm, rfl⟩
    · have HF := Lib.hid (isP_long lo hi s (by omega))
      have h8' : decide (8 < (s.size : Int)) = true := by simp; omega
      go_enter Tryz.func166, Tryz.ntmps166
      go_wp2
      go_ret
      exact ⟨ret_b HF.out.symm, rfl⟩
  · have h1 : decide ((s.size : Int) < 1) = true := by simp; omega
    have HF := Lib.hid (isP_nil lo hi s h0)
    go_enter Tryz.func166, Tryz.ntmps166
    go_wp2
    go_ret
    exact ⟨ret_b HF.out.symm, rfl⟩
theorem ref1_IsPrin (s : ByteArray) (w : World) (hs : s.size ≤ 9223372036854775807) :
    Calls Tryz.prog 110 #[.string s] w fun e w' => e = .returned (.bool (isP 65 90 (bl s))) ∧ w = w' := by
  go_enter Tryz.func110, Tryz.ntmps110
  go_wp2_with (go_at_call 166; refine (ref1_is 65 90 _ _ hs).mono ?_; rintro e w' ⟨rfl, rfl⟩)
  go_ret
  exact ⟨rfl, rfl⟩
theorem ref1_IsName (s : ByteArray) (w : World) (hs : s.size ≤ 9223372036854775807) :
    Calls Tryz.prog 111 #[.string s] w fun e w' => e = .returned (.bool (isP 97 122 (bl s))) ∧ w = w' := by
  go_enter Tryz.func111, Tryz.ntmps111
  go_wp2_with (go_at_call 166; refine (ref1_is 97 122 _ _ hs).mono ?_; rintro e w' ⟨rfl, rfl⟩)
  go_ret
  exact ⟨rfl, rfl⟩
end Go.Proofs.YtomhekohcadijaaGreatDoor
namespace Go.Proofs.YtomhekohcadijaaGreatDoor
open Go.RowKit

structure Rl where
  o : ByteArray
  n : ByteArray
structure St where
  k : Int
  h : Rl
  who : ByteArray
  a : Rl
  b : Rl
  via : ByteArray
abbrev rv (r : Rl) : Value := .agg #[.string r.o, .string r.n]
abbrev sv (s : St) : Value := .agg #[.int .i64 s.k, .string s.h.o, .string s.h.n, .string s.who, .string s.a.o, .string s.a.n, .string s.b.o, .string s.b.n, .string s.via]
def Rl.cells (r : Rl) : List Value := [.string r.o, .string r.n]
def St.cells (s : St) : List Value := [.int .i64 s.k, .string s.h.o, .string s.h.n, .string s.who, .string s.a.o, .string s.a.n, .string s.b.o, .string s.b.n, .string s.via]
theorem Rl.cells_len (r : Rl) : r.cells.length = 2 := rfl
theorem St.cells_len (s : St) : s.cells.length = 9 := rfl
instance : DecidableEq Rl := fun x y => decidable_of_iff (x.o = y.o ∧ x.n = y.n) (by cases x; cases y; simp)
instance : DecidableEq St := fun x y => decidable_of_iff (x.k = y.k ∧ x.h = y.h ∧ x.who = y.who ∧ x.a = y.a ∧ x.b = y.b ∧ x.via = y.via) (by cases x; cases y; simp)

abbrev emp : ByteArray := ⟨#[]⟩
def noR : Rl := ⟨emp, emp⟩
def noS : St := ⟨0, noR, emp, noR, noR, emp⟩
def Rl.le (r : Rl) (m : Nat) : Prop := r.o.size ≤ m ∧ r.n.size ≤ m
def St.le (s : St) (m : Nat) : Prop := s.h.le m ∧ s.who.size ≤ m ∧ s.a.le m ∧ s.b.le m ∧ s.via.size ≤ m

def eqRl (x y : Rl) : Bool := decide (x = y)
def eqSt (x y : St) : Bool := decide (x = y)

def isRole (r : Rl) : Bool := isP 65 90 (bl r.o) && isP 97 122 (bl r.n)
def cmpS (a b : ByteArray) : Int := Lib.compareBytes (bl a) (bl b)
def orI (x y : Int) : Int := if x = 0 then y else x
theorem orI_yes {x y : Int} (h : x = 0) : orI x y = y := if_pos h
theorem orI_no {x y : Int} (h : ¬ x = 0) : orI x y = x := if_neg h
def cmpR (a b : Rl) : Int := orI (cmpS a.o b.o) (cmpS a.n b.n)
def lessR (a b : Rl) : Bool := decide (cmpR a b < 0)

def rightS (s : St) : Bool :=
  isRole s.h &&
  (if s.k = 1 then isP 65 90 (bl s.who) && eqRl s.a noR && eqRl s.b noR && decide (s.via = emp)
   else if s.k = 2 then decide (s.who = emp) && isRole s.a && eqRl s.b noR && decide (s.via = emp)
   else if s.k = 3 then decide (s.who = emp) && isRole s.a && eqRl s.b noR && isP 97 122 (bl s.via)
   else if s.k = 4 then decide (s.who = emp) && isRole s.a && isRole s.b && decide (s.via = emp) && !lessR s.b s.a
   else false)
def normalS (s : St) : St := if s.k = 4 ∧ lessR s.b s.a = true then { s with a := s.b, b := s.a } else s
def roleT (r : Rl) : ByteArray := r.o ++ ⟨#[46]⟩ ++ r.n
def printS (s : St) : ByteArray :=
  if rightS s then
    roleT s.h ++ ⟨#[32, 60, 45, 32]⟩ ++
      (if s.k = 2 then roleT s.a else if s.k = 3 then roleT s.a ++ ⟨#[46]⟩ ++ s.via else if s.k = 4 then roleT s.a ++ ⟨#[32, 38, 32]⟩ ++ roleT s.b else s.who)
  else emp
def rolesS (s : St) : List Rl := if s.k = 2 ∨ s.k = 3 then [s.h, s.a] else if s.k = 4 then [s.h, s.a, s.b] else [s.h]

theorem rightS1 (h : Rl) (who : ByteArray) (a b : Rl) (via : ByteArray) : rightS ⟨1, h, who, a, b, via⟩ = (isRole h && isP 65 90 (bl who) && eqSt ⟨1, h, who, a, b, via⟩ ⟨1, h, who, noR, noR, emp⟩) := by
  simp [rightS, eqSt, eqRl, Bool.and_assoc, Bool.decide_and]
theorem rightS2 (h : Rl) (who : ByteArray) (a b : Rl) (via : ByteArray) : rightS ⟨2, h, who, a, b, via⟩ = (isRole h && isRole a && eqSt ⟨2, h, who, a, b, via⟩ ⟨2, h, emp, a, noR, emp⟩) := by
  simp [rightS, eqSt, eqRl, Bool.and_assoc, Bool.decide_and, Bool.and_left_comm]
theorem rightS3 (h : Rl) (who : ByteArray) (a b : Rl) (via : ByteArray) : rightS ⟨3, h, who, a, b, via⟩ = (isRole h && isRole a && isP 97 122 (bl via) && eqSt ⟨3, h, who, a, b, via⟩ ⟨3, h, emp, a, noR, via⟩) := by
  simp [rightS, eqSt, eqRl, Bool.and_assoc, Bool.decide_and, Bool.and_left_comm, Bool.and_comm]
theorem rightS4 (h : Rl) (who : ByteArray) (a b : Rl) (via : ByteArray) : rightS ⟨4, h, who, a, b, via⟩ = (isRole h && isRole a && isRole b && !lessR b a && eqSt ⟨4, h, who, a, b, via⟩ ⟨4, h, emp, a, b, emp⟩) := by
  simp [rightS, eqSt, Bool.and_assoc, Bool.decide_and, Bool.and_left_comm, Bool.and_comm]
theorem rightS0 (k : Int) (h : Rl) (who : ByteArray) (a b : Rl) (via : ByteArray) (h1 : ¬ k = 1) (h2 : ¬ k = 2) (h3 : ¬ k = 3) (h4 : ¬ k = 4) : rightS ⟨k, h, who, a, b, via⟩ = false := by
  simp [rightS, h1, h2, h3, h4]

theorem toList_bl (a : ByteArray) : a.toList = bl a := by rw [ByteArray.toList_eq]
theorem cmp_zero : ∀ (a b : List UInt8), Lib.compareBytes a b = 0 ↔ a = b
  | [], [] => by simp [Lib.compareBytes]
  | [], _ :: _ => by simp [Lib.compareBytes]
  | _ :: _, [] => by simp [Lib.compareBytes]
  | a :: xs, b :: ys => by
    simp only [Lib.compareBytes]
    by_cases h1 : a < b
    · rw [if_pos h1]; simp; intro e; subst e; exact absurd h1 (UInt8.lt_irrefl _)
    · by_cases h2 : b < a
      · rw [if_neg h1, if_pos h2]; simp; intro e; subst e; exact absurd h2 (UInt8.lt_irrefl _)
      · have : a = b := UInt8.le_antisymm (UInt8.not_lt.1 h2) (UInt8.not_lt.1 h1)
        subst this
        rw [if_neg h1, if_neg h2, cmp_zero xs ys]; simp
theorem cmp_less : ∀ (a b : List UInt8), Op.bytesLess a b = decide (Lib.compareBytes a b < 0)
  | [], [] => by simp [Lib.compareBytes, Op.bytesLess]
  | [], _ :: _ => by simp [Lib.compareBytes, Op.bytesLess]
  | _ :: _, [] => by simp [Lib.compareBytes, Op.bytesLess]
  | a :: xs, b :: ys => by
    simp only [Lib.compareBytes, Op.bytesLess, cmp_less xs ys]
    by_cases h1 : a < b
    · simp [h1]
    · by_cases h2 : b < a
      · have : ¬ a = b := fun e => by subst e; exact UInt8.lt_irrefl _ h2
        simp [h1, h2, this]
      · have : a = b := UInt8.le_antisymm (UInt8.not_lt.1 h2) (UInt8.not_lt.1 h1)
        subst this
        simp [h1]
theorem bl_inj {a b : ByteArray} : bl a = bl b ↔ a = b := by
  obtain ⟨⟨x⟩⟩ := a; obtain ⟨⟨y⟩⟩ := b; simp [bl]
theorem cmpS_zero (a b : ByteArray) : cmpS a b = 0 ↔ a = b := (cmp_zero _ _).trans bl_inj
end Go.Proofs.YtomhekohcadijaaGreatDoor
namespace Go.Proofs.YtomhekohcadijaaGreatDoor
open Go.RowKit Go.Shelf

theorem names_between (c lo hi : Int) (w : World) :
    Calls Tryz.prog 265 #[.int .u8 c, .int .u8 lo, .int .u8 hi] w fun e w' => e = .returned (.bool (btw c lo hi)) ∧ w = w' := by
  by_cases h : lo ≤ c
  all_goals
    go_enter Tryz.func265, Tryz.ntmps265
    go_wp2
    go_ret
    exact ⟨ret_b (by simp [btw]; omega), rfl⟩
theorem names_small (c : Int) (w : World) :
    Calls Tryz.prog 229 #[.int .u8 c] w fun e w' => e = .returned (.bool (btw c 97 122)) ∧ w = w' := by
  go_enter Tryz.func229, Tryz.ntmps229
  go_wp2_with (go_at_call 265; refine (names_between _ _ _ _).mono ?_; rintro e w' ⟨rfl, rfl⟩)
  go_ret
  exact ⟨rfl, rfl⟩
theorem names_capital (c : Int) (w : World) :
    Calls Tryz.prog 228 #[.int .u8 c] w fun e w' => e = .returned (.bool (btw c 65 90)) ∧ w = w' := by
  go_enter Tryz.func228, Tryz.ntmps228
  go_wp2_with (go_at_call 265; refine (names_between _ _ _ _).mono ?_; rintro e w' ⟨rfl, rfl⟩)
  go_ret
  exact ⟨rfl, rfl⟩
theorem names_digit (c : Int) (w : World) :
    Calls Tryz.prog 264 #[.int .u8 c] w fun e w' => e = .returned (.bool (btw c 48 57)) ∧ w = w' := by
  go_enter Tryz.func264, Tryz.ntmps264
  go_wp2_with (go_at_call 265; refine (names_between _ _ _ _).mono ?_; rintro e w' ⟨rfl, rfl⟩)
  go_ret
  exact ⟨rfl, rfl⟩

theorem alnum_yes1 {c : UInt8} (h : btw c.toNat 97 122 = true) : alnum c = true := by simp [alnum, h]
theorem alnum_yes2 {c : UInt8} (h : btw c.toNat 65 90 = true) : alnum c = true := by simp [alnum, h]
theorem alnum_yes3 {c : UInt8} (h : (!btw c.toNat 48 57) = false) : alnum c = true := by simp at h; simp [alnum, h]
theorem alnum_no {c : UInt8} (h1 : ¬ btw c.toNat 97 122 = true) (h2 : ¬ btw c.toNat 65 90 = true) (h3 : (!btw c.toNat 48 57) = true) : alnum c = false := by simp at h1 h2 h3; simp [alnum, h1, h2, h3]

set_option maxHeartbeats 1000000 in
theorem names_is (g : Nat) (lo hi : Int) (s : ByteArray) (w : World) (hs : s.size ≤ 9223372036854775807)
    (hg : ∀ (c : Int) (w : World), Calls Tryz.prog g #[.int .u8 c] w fun e w' => e = .returned (.bool (btw c lo hi)) ∧ w = w')
    (eg : ∀ (args : Array Value) (w : World), (callFunc g args).run Tryz.prog w = .ok (.enter g args) w) :
    Calls Tryz.prog 227 #[.string s, .func (.func g) #[] #[]] w fun e w' => e = .returned (.bool (isP lo hi (bl s))) ∧ w = w' := by
  have H := Lib.hid hg
  clear hg
  by_cases h0 : 0 < s.size
  · have hn := size_ne s h0
    by_cases h8 : s.size ≤ 8
    · have h8' : decide (8 < (s.size : Int)) = false := by simp; omega
      cases hb : btw s[0].toNat lo hi with
      | false =>
        have HF := Lib.hid (isP_false lo hi s h0 hb)
        go_enter Tryz.func227, Tryz.ntmps227
        go_wp2_with fail
        refine (H.out _ _).mono ?_
        rintro e w' ⟨rfl, rfl⟩
        go_wp2
        go_ret
        exact ⟨ret_b HF.out.symm, rfl⟩
      | true =>
        have HF := Lib.hid (isP_of lo hi s h0 h8 hb)
        go_enter Tryz.func227, Tryz.ntmps227
        go_wp2_with fail
        refine (H.out _ _).mono ?_
        rintro e w' ⟨rfl, rfl⟩
        go_wp2_with fail
        go_loop [24] (fun i => ∃ k : Nat, k ≤ s.size ∧ i = .int .i64 k ∧ (bl s).all alnum = ((bl s).drop k).all alnum) (fun i => s.size - (intOf i).toNat)
        case atStart => exact ⟨0, Nat.zero_le _, rfl, rfl⟩
        case round =>
          obtain ⟨k, hk, rfl, hal⟩ := hrel
          by_cases hlt : k < s.size
          · have HS := Lib.hid (hal.trans (all_step s k hlt))
            clear hal
            go_wp2_with (first | (go_at_call 228; refine (names_capital _ _).mono ?_; rintro e w' ⟨rfl, rfl⟩) | (go_at_call 229; refine (names_small _ _).mono ?_; rintro e w' ⟨rfl, rfl⟩) | (go_at_call 264; refine (names_digit _ _).mono ?_; rintro e w' ⟨rfl, rfl⟩))
            all_goals first
              | exact ⟨⟨k + 1, by omega, by go_num, HS.out.trans (by rw [alnum_yes1 ‹_›]; rfl)⟩, by simp [intOf]; omega⟩
              | exact ⟨⟨k + 1, by omega, by go_num, HS.out.trans (by rw [alnum_yes2 ‹_›]; rfl)⟩, by simp [intOf]; omega⟩
              | exact ⟨⟨k + 1, by omega, by go_num, HS.out.trans (by rw [alnum_yes3 ‹_›]; rfl)⟩, by simp [intOf]; omega⟩
              | (go_ret; exact ⟨ret_b (HF.out.trans (HS.out.trans (by rw [alnum_no ‹_› ‹_› ‹_›]; rfl))).symm, rfl⟩)
          · have HS := Lib.hid (hal.trans (all_end s k hlt))
            clear hal
            go_wp2
            go_ret
            exact ⟨ret_b (HF.out.trans HS.out).symm, rfl⟩
    · have HF := Lib.hid (isP_long lo hi s (by omega))
      have h8' : decide (8 < (s.size : Int)) = true := by simp; omega
      go_enter Tryz.func227, Tryz.ntmps227
      go_wp2
      go_ret
      exact ⟨ret_b HF.out.symm, rfl⟩
  · have hn := size_eq s h0
    have HF := Lib.hid (isP_nil lo hi s h0)
    go_enter Tryz.func227, Tryz.ntmps227
    go_wp2
    go_ret
    exact ⟨ret_b HF.out.symm, rfl⟩
theorem names_IsPrin (s : ByteArray) (w : World) (hs : s.size ≤ 9223372036854775807) :
    Calls Tryz.prog 164 #[.string s] w fun e w' => e = .returned (.bool (isP 65 90 (bl s))) ∧ w = w' := by
  go_enter Tryz.func164, Tryz.ntmps164
  go_wp2_with (go_at_call 227; refine (names_is _ 65 90 _ _ hs names_capital (enters_of Tryz.func228 (by kernel_rfl) rfl)).mono ?_; rintro e w' ⟨rfl, rfl⟩)
  go_ret
  exact ⟨rfl, rfl⟩
theorem names_IsName (s : ByteArray) (w : World) (hs : s.size ≤ 9223372036854775807) :
    Calls Tryz.prog 165 #[.string s] w fun e w' => e = .returned (.bool (isP 97 122 (bl s))) ∧ w = w' := by
  go_enter Tryz.func165, Tryz.ntmps165
  go_wp2_with (go_at_call 227; refine (names_is _ 97 122 _ _ hs names_small (enters_of Tryz.func229 (by kernel_rfl) rfl)).mono ?_; rintro e w' ⟨rfl, rfl⟩)
  go_ret
  exact ⟨rfl, rfl⟩
end Go.Proofs.YtomhekohcadijaaGreatDoor
namespace Go.Proofs.YtomhekohcadijaaGreatDoor
open Go.RowKit Go.Shelf

set_option maxHeartbeats 400000 in
theorem syn_IsRole (r : Rl) (w : World) (hs : r.le 4294967) :
    Calls Tryz.prog 108 #[rv r] w fun e w' => e = .returned (.bool (isRole r)) ∧ Below w.heap.size w w' := by
  obtain ⟨o, n⟩ := r
  obtain ⟨h1, h2⟩ := hs
  have H1 := Lib.hid (fun W => names_IsPrin o W (by dsimp only at h1; omega))
  have H2 := Lib.hid (fun W => names_IsName n W (by dsimp only at h2; omega))
  clear h1 h2
  have E := Lib.hid (show isRole ⟨o, n⟩ = (isP 65 90 (bl o) && isP 97 122 (bl n)) from rfl)
  cases hp : isP 65 90 (bl o) with
  | true =>
    rw [hp] at E
    go_enter Tryz.func108, Tryz.ntmps108
    go_wp2_with (first | (go_at_call 164; refine (H1.out _).mono ?_; rintro e w' ⟨rfl, rfl⟩) | (go_at_call 165; refine (H2.out _).mono ?_; rintro e w' ⟨rfl, rfl⟩))
    go_ret
    exact ⟨ret_b (by rw [E.out]; rfl), (Below.refl _ _).alloc (Nat.le_refl _) _⟩
  | false =>
    rw [hp] at E
    go_enter Tryz.func108, Tryz.ntmps108
    go_wp2_with (first | (go_at_call 164; refine (H1.out _).mono ?_; rintro e w' ⟨rfl, rfl⟩) | (go_at_call 165; refine (H2.out _).mono ?_; rintro e w' ⟨rfl, rfl⟩))
    go_ret
    exact ⟨ret_b (by rw [E.out]; rfl), (Below.refl _ _).alloc (Nat.le_refl _) _⟩

theorem cmp_Or2 (b : Nat) (x y : Int) (w : World) (h0 : w.cell? ⟨b, 0, none⟩ = some (.int .i64 x)) (h1 : w.cell? ⟨b, 1, none⟩ = some (.int .i64 y)) :
    Calls Tryz.prog 160 #[.slice (some ⟨b, 0, none⟩) 2 2] w fun e w' => e = .returned (.int .i64 (orI x y)) ∧ w = w' := by
  go_enter Tryz.func160, Tryz.ntmps160
  go_wp2
  go_loop [8] (fun i => ∃ k : Nat, k ≤ 2 ∧ i = .int .i64 k ∧ (k = 1 → x = 0) ∧ (k = 2 → x = 0 ∧ y = 0)) (fun i => 2 - (intOf i).toNat)
  case atStart => exact ⟨0, by omega, rfl, by omega, by omega⟩
  case round =>
    obtain ⟨k, hk, rfl, hx, hy⟩ := hrel
    have HX := Lib.hid hx
    have HY := Lib.hid hy
    clear hx hy
    by_cases k0 : k = 0
    · subst k0
      by_cases hz : x = 0
      · have b1 : (x != 0) = false := by simp [hz]
        clear hz
        have HZ := Lib.hid b1
        go_wp2
        exact ⟨⟨1, by omega, rfl, fun _ => by simpa using HZ.out, by omega⟩, by simp [intOf]⟩
      · have b1 : (x != 0) = true := by simp [hz]
        have HZ := Lib.hid hz
        clear hz
        go_wp2
        go_ret
        exact ⟨ret_int (by rw [orI_no HZ.out]), rfl⟩
    · by_cases k1 : k = 1
      · subst k1
        have HX0 := Lib.hid (HX.out rfl)
        clear HX HY
        by_cases hz : y = 0
        · have b1 : (y != 0) = false := by simp [hz]
          clear hz
          have HZ := Lib.hid b1
          go_wp2
          exact ⟨⟨2, by omega, rfl, by omega, fun _ => ⟨HX0.out, by simpa using HZ.out⟩⟩, by simp [intOf]⟩
        · have b1 : (y != 0) = true := by simp [hz]
          clear hz
          go_wp2
          go_ret
          exact ⟨ret_int (by rw [orI_yes HX0.out]), rfl⟩
      · obtain rfl : k = 2 := by omega
        have HY0 := Lib.hid (HY.out rfl)
        clear HX HY
        go_wp2
        go_ret
        exact ⟨ret_int (by rw [orI_yes HY0.out.1, HY0.out.2]), rfl⟩

theorem cmp_call (a c : ByteArray) (w : World) : Calls Tryz.prog 163 #[.string a, .string c] w fun e w' => e = .returned (.int .i64 (cmpS a c)) ∧ w' = w := Tryz.strings_Compare a c w

set_option maxRecDepth 100000 in
set_option maxHeartbeats 1000000 in
theorem syn_order (x y : Rl) (w : World) : Calls Tryz.prog 161 #[rv x, rv y] w fun e w' => e = .returned (.int .i64 (cmpR x y)) ∧ Below w.heap.size w w' := by
  obtain ⟨a, b⟩ := x
  obtain ⟨c, d⟩ := y
  go_enter Tryz.func161, Tryz.ntmps161
  go_wp2_with fail
  refine region_tail 10 (by kernel_rfl) (by kernel_rfl) ?_
  simp only [List.take_succ_cons, List.take_zero, List.drop_succ_cons, List.drop_zero]
  repeat still_step
  still_call (cmp_call a c _)
  repeat still_step
  still_call (cmp_call b d _)
  repeat still_step
  refine wpStill_nil ?_
  have E := Lib.hid (show cmpR ⟨a, b⟩ ⟨c, d⟩ = orI (cmpS a c) (cmpS b d) from rfl)
  generalize cmpS a c = p at E ⊢
  generalize cmpS b d = q at E ⊢
  go_wp2_with fail
  refine (cmp_Or2 _ p q _ (by simp [go_sem]) (by simp [go_sem])).mono ?_
  rintro e w' ⟨rfl, rfl⟩
  go_wp2
  go_ret
  exact ⟨ret_int (by rw [E.out]), below_drewN ((((Below.refl _ _).alloc (Nat.le_refl _) _).alloc (by simp) _).alloc (by simp; omega) _) 1⟩

set_option maxHeartbeats 1000000 in
theorem syn_Less (x y : Rl) (w : World) : Calls Tryz.prog 109 #[rv x, rv y] w fun e w' => e = .returned (.bool (lessR x y)) ∧ Below w.heap.size w w' := by
  have E := Lib.hid (show lessR x y = decide (cmpR x y < 0) from rfl)
  obtain ⟨a, b⟩ := x
  obtain ⟨c, d⟩ := y
  go_enter Tryz.func109, Tryz.ntmps109
  go_wp2_with (go_at_call 161; refine (syn_order ⟨a, b⟩ ⟨c, d⟩ _).mono ?_; rintro e w1 ⟨rfl, hb⟩)
  go_ret
  exact ⟨ret_b (by rw [E.out]), (((Below.refl _ _).alloc (Nat.le_refl _) _).alloc (by simp) _).trans (hb.mono (by simp; omega))⟩

theorem syn_PrintRole (r : Rl) (w : World) (hs : r.le 4294967) : Calls Tryz.prog 103 #[rv r] w fun e w' => e = .returned (.string (roleT r)) ∧ Below w.heap.size w w' := by
  obtain ⟨o, n⟩ := r
  obtain ⟨h1, h2⟩ := hs
  dsimp only at h1 h2
  go_enter Tryz.func103, Tryz.ntmps103
  go_wp2
  go_ret
  exact ⟨rfl, (Below.refl _ _).alloc (Nat.le_refl _) _⟩
end Go.Proofs.YtomhekohcadijaaGreatDoor
