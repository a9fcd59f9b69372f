/- simple.Satisfies, whatever tells the members (printed by gen_simsat.py). slices.IndexFunc and slices.DeleteFunc at rows of statements. low.Minimal; crupperref11.Minimal. crupperref11.follows. Plain laws: the bits of a word, and rows of numbers in order. Worlds that differ in named blocks alone; blocks whose cells a function tells. A region that draws its order and ends in a store into a cell that it loads: what is loaded is held up to the last operation, which waits for all others. package set: row, Has, Add, List; bits.TrailingZeros64. set.Family.List: the numbers of a row, rising. set.New. table.For and (*table.Table).Rules; crupperref06.Same of the same rules. The maker of package sem in a world: its blocks, its rows of rules, its queue. sem.maker.add and all. sem.maker.all. Plain laws of what follows of a fact; rules by their kinds; the maker behind small steps. Two rows of the call's own, side by side, while one of them grows. sem.maker.put. sem.maker.put: the walk (printed by gen_semput.py). sem.maker.look. table.Right (printed by gen_tabright.py). sem.Eval. (*set.Family).List of any row; (*sem.Model).Members, Steps. low.Eval, low.Steps, low.Members: as walks. simple.view.members, Only, Is, Holds: as walks. crupperref11.Eval. Plain laws: what a model of statements tells is what the document finds. Decimal digits, fresh texts: plain laws. names.dec, (*names.Table).Fresh, crupperref01.Dec, crupperref01.Fresh: the first text that is not in a row. Package state: Reaches; the reference's MayCome and Reaches. Plain laws: the greatest state. slices.Equal, Grow and Concat at rows of roles (printed by gen_rlall.py out of StSlices, StUnion). slices.IndexFunc and slices.DeleteFunc at rows of roles. A row of the call's own stands above every lower bound. high.Fresh, prins, Roles, Maximal (printed by gen_highfns.py). high.Eval, Steps, Members (turned out of LowFns by gen_higheval.py). Plain laws: a least relation of statements is a row of pairs; what more statements tell. The statement StateParts: the walk of the law. How two policies differ, in plain Lean. Package delta: without, with, Back, Empty, Same. Whether two differences are the same (printed by gen_dlsame.py). Whether two rows of texts, two queries, two policies are the same: of the same ones. high.Members as a law; the document's example of layer 12. crupperref01.Dec, crupperref01.Fresh. -/
import Derived.Test.YtcmdhfccdkjenaaGreatDoorPart6
import Derived.Test.YtcmdhfccdkjenaaGreatDoorPart10
import Derived.Test.YtcmdhfccdkjenaaGreatDoorPart5
import Derived.Test.YtcmdhfccdkjenaaGreatDoorPart3
import Derived.Lib.TrailingZeros
import Derived.Laws.Bits64b
import Derived.WalkSmall
import Derived.Test.YtcmdhfccdkjenaaGreatDoorPart9
import Derived.Deep.MidRow
import Derived.ArgAppend
import Derived.Test.YtcmdhfccdkjenaaGreatDoorPart7
import Derived.Test.YtcmdhfccdkjenaaGreatDoorPart1
import Derived.Laws.IdiomStrings
namespace Go.Proofs.YtcmdhfccdkjenaaGreatDoor
open Go.RowKit Go.Shelf

end Go.Proofs.YtcmdhfccdkjenaaGreatDoor
namespace Go.Proofs.YtcmdhfccdkjenaaGreatDoor
open Go.RowKit Go.Shelf

theorem filter_yesS' {l : List St} {p : St → Bool} {k : Nat} (h : k < l.length) (hp : p l[k] = true) : (l.take (k + 1)).filter p = (l.take k).filter p ++ [l[k]] := by
  rw [List.take_succ_eq_append_getElem h, List.filter_append, List.filter_cons, if_pos hp]; rfl
theorem filter_noS' {l : List St} {p : St → Bool} {k : Nat} (h : k < l.length) (hp : p l[k] = false) : (l.take (k + 1)).filter p = (l.take k).filter p := by
  rw [List.take_succ_eq_append_getElem h, List.filter_append, List.filter_cons, if_neg (by rw [hp]; exact Bool.false_ne_true)]; simp
/-- The first i cells of a row that DeleteFunc works on are those of its first j that stay; the rest is as it was. -/
structure HalfD (w : World) (b o : Nat) (l : List St) (np : St → Bool) (j i : Nat) : Prop where
  len : ((l.take j).filter np).length = i
  low : ∀ k (hk : k < ((l.take j).filter np).length), Nine w b (o + k * 9) ((l.take j).filter np)[k]
  high : ∀ k (hk : k < l.length), j ≤ k → Nine w b (o + k * 9) l[k]
  all : ∀ k, k < l.length → ∃ s0, Nine w b (o + k * 9) s0
theorem HalfD.skip {w : World} {b o j i : Nat} {l : List St} {np : St → Bool} (h : HalfD w b o l np j i) (hj : j < l.length) (e : np l[j] = false) : HalfD w b o l np (j + 1) i := by
  have hd := filter_noS' hj e
  exact ⟨by rw [hd]; exact h.len, fun k hk => by simp only [hd]; exact h.low k (by rw [← hd]; exact hk), fun k hk hjk => h.high k hk (by omega), h.all⟩
theorem HalfD.put {w : World} {b o j i : Nat} {l : List St} {np : St → Bool} (h : HalfD w b o l np j i) (hj : j < l.length) (hij : i ≤ j) (e : np l[j] = true) : HalfD (W9 w b (o + i * 9) l[j]) b o l np (j + 1) (i + 1) := by
  have hd := filter_yesS' hj e
  refine ⟨by rw [hd, List.length_append, h.len]; rfl, fun k hk => ?_, fun k hk hjk => ?_, fun k hk => ?_⟩
  · rw [hd, List.length_append, h.len] at hk
    simp only [List.length_cons, List.length_nil] at hk
    by_cases hik : k < i
    · have e1 : ((l.take (j + 1)).filter np)[k]'(by rw [hd, List.length_append, h.len]; simp; omega) = ((l.take j).filter np)[k]'(by rw [h.len]; exact hik) := by
        simp only [hd]; rw [List.getElem_append_left]
      rw [e1]
      exact (h.low k (by rw [h.len]; exact hik)).drop1 (fun _ _ _ => w9_far _ _ _ _ _ (by omega))
    · obtain rfl : k = i := by omega
      have e1 : ((l.take (j + 1)).filter np)[k]'(by rw [hd, List.length_append, h.len]; simp) = l[j] := by
        simp only [hd]; rw [List.getElem_append_right (by rw [h.len]; exact Nat.le_refl _)]; simp [h.len]
      rw [e1]
      obtain ⟨s0, h0⟩ := h.all k (by omega)
      exact w9_new _ _ h0
  · exact (h.high k hk (by omega)).drop1 (fun _ _ _ => w9_far _ _ _ _ _ (by omega))
  · obtain ⟨s0, h0⟩ := h.all k hk
    by_cases hik : k = i
    · subst hik; exact ⟨_, w9_new _ _ h0⟩
    · exact ⟨s0, h0.drop1 (fun _ _ _ => w9_far _ _ _ _ _ (by omega))⟩
theorem HalfD.start {w : World} {b o k : Nat} {l : List St} {np : St → Bool} (hx : ∀ j u, (l.flatMap St.cells)[j]? = some u → w.cell? ⟨b, o + j, none⟩ = some u) (hk : k < l.length) (h0 : np l[k] = false) (h1 : ∀ j (hj : j < l.length), j < k → np l[j] = true) : HalfD w b o l np (k + 1) k := by
  have hd : (l.take (k + 1)).filter np = l.take k := by
    rw [filter_noS' hk h0, List.filter_eq_self]
    intro x hx
    obtain ⟨j, hj, rfl⟩ := List.getElem_of_mem hx
    rw [List.getElem_take]
    rw [List.length_take] at hj
    exact h1 j (by omega) (by omega)
  refine ⟨by rw [hd, List.length_take]; omega, fun i hi => ?_, fun i hi _ => st_cell (w := w) hx i hi, fun i hi => ⟨_, st_cell (w := w) hx i hi⟩⟩
  have hi' : i < l.length := by rw [hd, List.length_take] at hi; omega
  have e : ((l.take (k + 1)).filter np)[i] = l[i] := by simp only [hd, List.getElem_take]
  rw [e]
  exact st_cell (w := w) hx i hi'
theorem HalfD.done {w : World} {b o j i : Nat} {l : List St} {np : St → Bool} (h : HalfD w b o l np j i) (hj : j = l.length) : (l.filter np).length = i ∧ ∀ k (hk : k < (l.filter np).length), Nine w b (o + k * 9) (l.filter np)[k] := by
  subst hj
  obtain ⟨h1, h2, _, _⟩ := h
  simp only [List.take_of_length_le (Nat.le_refl _)] at h1 h2
  exact ⟨h1, h2⟩
theorem HalfD.some {w : World} {b o j i : Nat} {l : List St} {np : St → Bool} (h : HalfD w b o l np j i) (hi : i ≤ l.length) : ∀ k, k < (l.length - i) * 9 → (w.cell? ⟨b, o + i * 9 + k, none⟩).isSome = true := by
  intro k hk
  obtain ⟨s0, h0⟩ := h.all (i + k / 9) (by omega)
  have := nine_some h0 (k % 9) (Nat.mod_lt _ (by decide))
  rwa [show o + (i + k / 9) * 9 + k % 9 = o + i * 9 + k by omega] at this
end Go.Proofs.YtcmdhfccdkjenaaGreatDoor
namespace Go.Proofs.YtcmdhfccdkjenaaGreatDoor
open Go.RowKit Go.Shelf

end Go.Proofs.YtcmdhfccdkjenaaGreatDoor
namespace Go.Proofs.YtcmdhfccdkjenaaGreatDoor
open Go.RowKit Go.Shelf

theorem flatMap_le {α β : Type} (f : α → List β) (c : Nat) (h : ∀ x, (f x).length ≤ c) : ∀ l : List α, (l.flatMap f).length ≤ l.length * c
  | [] => by simp
  | a :: l => by
    have h1 := h a
    have h2 := flatMap_le f c h l
    rw [List.flatMap_cons, List.length_append, List.length_cons, Nat.succ_mul]
    omega
/-- A pair in a block of its own. -/
def XAt (w : World) (b : Nat) (y1 y2 y3 : ByteArray) : Prop := w.heap[b]? = some (.cells #[.string y1, .string y2, .string y3] 120 (0, 0))
theorem XAt.blk {w : World} {b : Nat} {y1 y2 y3 : ByteArray} (h : XAt w b y1 y2 y3) : Blk w b #[.string y1, .string y2, .string y3] := blk_of h
theorem XAt.lt {w : World} {b : Nat} {y1 y2 y3 : ByteArray} (h : XAt w b y1 y2 y3) : b < w.heap.size := (Array.getElem?_eq_some_iff.1 h).1
theorem XAt.below {w w' : World} {b : Nat} {y1 y2 y3 : ByteArray} (h : XAt w b y1 y2 y3) (hb : Below w.heap.size w w') : XAt w' b y1 y2 y3 := (hb.block b h.lt).trans h
theorem XAt.alloc {w : World} {b : Nat} {y1 y2 y3 : ByteArray} (h : XAt w b y1 y2 y3) (o : Obj) : XAt (w.alloc o) b y1 y2 y3 := h.below ((Below.refl _ _).alloc (Nat.le_refl _) o)
theorem XAt.grown {w w' : World} {b base n : Nat} {y1 y2 y3 : ByteArray} {v : Value} {xs : List Value} (h : XAt w b y1 y2 y3) (ho : w.ownsRow base 9 1 v n xs) (hg : w.grownBy w' v.ownBlock) : XAt w' b y1 y2 y3 :=
  (hg.block b h.lt (own_tag ho h (by decide))).trans h
end Go.Proofs.YtcmdhfccdkjenaaGreatDoor
namespace Go.Proofs.YtcmdhfccdkjenaaGreatDoor
open Go.RowKit Go.Shelf

/-- A word that tells which of a row's numbers are in a set. -/
def wrdOf (fs : List (Nat × Nat)) (i m : Nat) : Prop := m < 2 ^ 64 ∧ ∀ c, m.testBit c = decide ((i, c) ∈ fs)
theorem wrdOf.nil (i : Nat) : wrdOf [] i 0 := ⟨by decide, fun c => by simp⟩
theorem wrdOf.other {fs : List (Nat × Nat)} {i m r c : Nat} (h : wrdOf fs i m) (hr : r ≠ i) : wrdOf (fs ++ [(r, c)]) i m := by
  refine ⟨h.1, fun d => ?_⟩
  rw [h.2, decide_eq_decide, List.mem_append, List.mem_singleton]
  constructor
  · exact .inl
  · rintro (h | h)
    · exact h
    · simp only [Prod.mk.injEq] at h; exact absurd h.1.symm hr
theorem wrdOf.put {fs : List (Nat × Nat)} {i m c : Nat} (h : wrdOf fs i m) (hc : c < 64) : wrdOf (fs ++ [(i, c)]) i (m ||| 2 ^ c) := by
  refine ⟨Nat.or_lt_two_pow h.1 (Nat.pow_lt_pow_right (by decide) hc), fun d => ?_⟩
  rw [Nat.testBit_or, h.2, Nat.testBit_two_pow]
  by_cases e : c = d
  · subst e; simp
  · have : (i, d) ≠ (i, c) := fun h => e (by simp only [Prod.mk.injEq, true_and] at h; exact h.symm)
    simp [e, this]
end Go.Proofs.YtcmdhfccdkjenaaGreatDoor
namespace Go.Proofs.YtcmdhfccdkjenaaGreatDoor
open Go.RowKit Go.Shelf

/-- All blocks but those of X are as they were. -/
structure Kp (X : Nat → Prop) (w w' : World) : Prop where
  os : w'.os = w.os
  tape : w'.tape = w.tape
  output : w'.output = w.output
  size : w.heap.size ≤ w'.heap.size
  block : ∀ k, k < w.heap.size → ¬ X k → w'.heap[k]? = w.heap[k]?
section
variable {X Y : Nat → Prop} {w w1 w2 : World}
theorem Kp.refl (X : Nat → Prop) (w : World) : Kp X w w := ⟨rfl, rfl, rfl, Nat.le_refl _, fun _ _ _ => rfl⟩
theorem Kp.of_below (h : Below w.heap.size w w1) : Kp X w w1 := ⟨h.os, h.tape, h.output, h.size, fun k hk _ => h.block k hk⟩
theorem Kp.of_grown {r : Option Nat} (h : w.grownBy w1 r) (hr : ∀ b, some b = r → X b) : Kp X w w1 := ⟨h.os, h.tape, h.output, h.size, fun k hk hx => h.block k hk (fun e => hx (hr k e))⟩
theorem Kp.trans (h : Kp X w w1) (g : Kp Y w1 w2) (hxy : ∀ b, b < w.heap.size → Y b → X b) : Kp X w w2 :=
  ⟨g.os.trans h.os, g.tape.trans h.tape, g.output.trans h.output, Nat.le_trans h.size g.size, fun k hk hx => (g.block k (Nat.lt_of_lt_of_le hk h.size) (fun hy => hx (hxy k hk hy))).trans (h.block k hk hx)⟩
theorem Kp.below {n : Nat} (h : Kp X w w1) (hn : n ≤ w.heap.size) (hx : ∀ b, b < n → ¬ X b) : Below n w w1 := ⟨h.os, h.tape, h.output, h.size, fun k hk => h.block k (Nat.lt_of_lt_of_le hk hn) (hx k hk)⟩
theorem Kp.blk {b : Nat} {cs : Array Value} (h : Kp X w w1) (hb : Blk w b cs) (hx : ¬ X b) : Blk w1 b cs := by
  have e := h.block b hb.2.2 hx
  exact ⟨fun o => (World.cell?_of_block (a := ⟨b, o, none⟩) e).trans (hb.1 o), fun o => (World.frozen?_of_block (a := ⟨b, o, none⟩) e).trans (hb.2.1 o), Nat.lt_of_lt_of_le hb.2.2 h.size⟩
theorem Kp.own {base size n : Nat} {e : TypeId} {v : Value} {xs : List Value} (h : Kp X w w1) (ho : w.ownsRow base e size v n xs) (hx : ∀ g, v.ownBlock = some g → ¬ X g) : w1.ownsRow base e size v n xs := by
  refine ⟨ho.1, ?_⟩
  rcases ho.2 with h2 | ⟨g, cap, cur, rfl, hb, hg, hr⟩
  · exact .inl h2
  · exact .inr ⟨g, cap, cur, rfl, hb, (h.block g (Array.getElem?_eq_some_iff.1 hg).1 (hx g rfl)).trans hg, hr⟩
theorem Kp.set {b o : Nat} {v : Value} (hx : X b) : Kp X w (w.setCell ⟨b, o, none⟩ v) :=
  ⟨rfl, rfl, rfl, by simp [World.setCell], fun k _ hk => Below.heap_setCell _ _ _ _ (fun e => hk (by have e' : k = b := e; rw [e']; exact hx))⟩
theorem Kp.sub (h : Kp X w w1) (hxy : ∀ b, b < w.heap.size → X b → Y b) : Kp Y w w1 := ⟨h.os, h.tape, h.output, h.size, fun k hk hy => h.block k hk (fun hx => hy (hxy k hk hx))⟩
theorem Kp.drew (h : Kp X w w1) : Kp X w w1.drew := ⟨h.os, h.tape, h.output, h.size, h.block⟩
end
/-- A block of n cells that a function tells. -/
def arrOf (n : Nat) (f : Nat → Value) : Array Value := ((List.range n).map f).toArray
theorem arrOf_get (n : Nat) (f : Nat → Value) (i : Nat) : (arrOf n f)[i]? = if i < n then some (f i) else none := by
  unfold arrOf
  rw [List.getElem?_toArray, List.getElem?_map]
  by_cases h : i < n
  · rw [if_pos h, List.getElem?_eq_getElem (by simpa using h)]; simp
  · rw [if_neg h, List.getElem?_eq_none (by simpa using h)]; rfl
theorem arrOf_size (n : Nat) (f : Nat → Value) : (arrOf n f).size = n := by unfold arrOf; simp
theorem arrOf_set (n : Nat) (f : Nat → Value) (i : Nat) (v : Value) (hi : i < n) : (arrOf n f).setIfInBounds i v = arrOf n (fun j => if j = i then v else f j) := by
  apply Array.ext_getElem?
  intro j
  rw [Array.getElem?_setIfInBounds, arrOf_get, arrOf_get, arrOf_size]
  by_cases h : i = j
  · subst h; rw [if_pos rfl, if_pos hi, if_pos hi, if_pos rfl]
  · rw [if_neg h]
    by_cases hj : j < n
    · rw [if_pos hj, if_pos hj, if_neg (fun e => h e.symm)]
    · rw [if_neg hj, if_neg hj]
theorem arrOf_congr {n : Nat} {f g : Nat → Value} (h : ∀ i, i < n → f i = g i) : arrOf n f = arrOf n g := by
  apply Array.ext_getElem?
  intro j
  rw [arrOf_get, arrOf_get]
  by_cases hj : j < n
  · rw [if_pos hj, if_pos hj, h j hj]
  · rw [if_neg hj, if_neg hj]

/-- A family of sets of numbers below 64, in a world. -/
structure FamAt (w : World) (F W0 g0 rows cols : Nat) (fs : List (Nat × Nat)) : Prop where
  ff : Blk w F #[.int .i64 rows, .int .i64 cols, .slice (some ⟨W0, 0, none⟩) rows rows, .int .i64 fs.length]
  ww : Blk w W0 (arrOf rows (fun i => .slice (some ⟨g0 + i, 0, none⟩) 1 1))
  gg : ∀ i, i < rows → ∃ m : Nat, Blk w (g0 + i) #[.int .u64 m] ∧ wrdOf fs i m
  o1 : F < W0
  o2 : W0 < g0
  c64 : cols ≤ 64
  r64 : rows ≤ 4096
  rng : ∀ f ∈ fs, f.1 < rows ∧ f.2 < cols
  nodup : fs.Nodup
/-- The blocks that Add changes. -/
def famX (F g0 rows : Nat) (b : Nat) : Prop := b = F ∨ (g0 ≤ b ∧ b < g0 + rows)
theorem FamAt.kp {X : Nat → Prop} {w w' : World} {F W0 g0 rows cols : Nat} {fs : List (Nat × Nat)} (h : FamAt w F W0 g0 rows cols fs) (k : Kp X w w') (h1 : ¬ X F) (h2 : ¬ X W0) (h3 : ∀ i, i < rows → ¬ X (g0 + i)) : FamAt w' F W0 g0 rows cols fs :=
  ⟨k.blk h.ff h1, k.blk h.ww h2, fun i hi => by obtain ⟨m, hm, ho⟩ := h.gg i hi; exact ⟨m, k.blk hm (h3 i hi), ho⟩, h.o1, h.o2, h.c64, h.r64, h.rng, h.nodup⟩
theorem FamAt.below {w w' : World} {F W0 g0 rows cols : Nat} {fs : List (Nat × Nat)} (h : FamAt w F W0 g0 rows cols fs) (hb : Below w.heap.size w w') : FamAt w' F W0 g0 rows cols fs :=
  h.kp (Kp.of_below (X := fun _ => False) hb) id id (fun _ _ => id)
theorem fam_len {w : World} {F W0 g0 rows cols : Nat} {fs : List (Nat × Nat)} (h : FamAt w F W0 g0 rows cols fs) : fs.length ≤ rows * cols := by
  have h1 := nodup_le fs ((List.range rows).flatMap (fun i => (List.range cols).map (fun c => (i, c)))) h.nodup (fun f hf => by
    obtain ⟨a, b⟩ := h.rng f hf
    rw [List.mem_flatMap]
    exact ⟨f.1, List.mem_range.2 a, List.mem_map.2 ⟨f.2, List.mem_range.2 b, rfl⟩⟩)
  have h2 : ∀ l : List Nat, (l.flatMap (fun i => (List.range cols).map (fun c => (i, c)))).length = l.length * cols := by
    intro l
    induction l with
    | nil => simp
    | cons a r ih => rw [List.flatMap_cons, List.length_append, ih, List.length_map, List.length_range, List.length_cons, Nat.succ_mul, Nat.add_comm]
  rw [h2, List.length_range] at h1
  exact h1
end Go.Proofs.YtcmdhfccdkjenaaGreatDoor
namespace Go.Proofs.YtcmdhfccdkjenaaGreatDoor
open Go.RowKit Go.Shelf

section
variable {P : Program} {ops : Array Oper} {Q : Exit → Act → World → Prop} {md : Region.Mode} {S : World → Prop} {last : Nat}

end

end Go.Proofs.YtcmdhfccdkjenaaGreatDoor
namespace Go.Proofs.YtcmdhfccdkjenaaGreatDoor
open Go.RowKit Go.Shelf

section
variable {w : World} {F W0 g0 rows cols : Nat} {fs : List (Nat × Nat)}
/-- What Add leaves. -/
def addF (fs : List (Nat × Nat)) (r c : Nat) : List (Nat × Nat) := if (r, c) ∈ fs then fs else fs ++ [(r, c)]
end
end Go.Proofs.YtcmdhfccdkjenaaGreatDoor
namespace Go.Proofs.YtcmdhfccdkjenaaGreatDoor
open Go.RowKit Go.Shelf

/-- The library's table behind TrailingZeros64. -/
def TB (w : World) : Prop := ∀ j, j < Lib.deBruijn64tab.length → w.cell? ⟨0, j, none⟩ = some (.int .u8 (Lib.deBruijn64tab.getD j 0))
theorem TB.below {w w' : World} (h : TB w) (hb : Below w.heap.size w w') : TB w' := by
  exact fun j hj => (hb.cell (p := ⟨0, j, none⟩) (World.block_lt_of_cell? w _ (h j hj))).trans (h j hj)
end Go.Proofs.YtcmdhfccdkjenaaGreatDoor
namespace Go.Proofs.YtcmdhfccdkjenaaGreatDoor
open Go.RowKit Go.Shelf

end Go.Proofs.YtcmdhfccdkjenaaGreatDoor
namespace Go.Proofs.YtcmdhfccdkjenaaGreatDoor
open Go.RowKit Go.Shelf

def Ru.cells (r : Ru) : List Value := [.int .i64 r.k, .int .i64 r.h, .int .i64 r.who, .int .i64 r.a, .int .i64 r.b, .int .i64 r.via]
theorem Ru.cells_len (r : Ru) : r.cells.length = 6 := rfl
/-- The rules of statements. -/
def ruleS (a b : List ByteArray) (s : St) : List Ru := if (ruleN a b s).2 = true then [(ruleN a b s).1] else []
def rulesN (a b : List ByteArray) (l : List St) : List Ru := l.flatMap (ruleS a b)
theorem ruleS_len (a b : List ByteArray) (s : St) : (ruleS a b s).length ≤ 1 := by unfold ruleS; split <;> simp
end Go.Proofs.YtcmdhfccdkjenaaGreatDoor
namespace Go.Proofs.YtcmdhfccdkjenaaGreatDoor
open Go.RowKit Go.Shelf

def qcells (q : List (Nat × Nat)) : List Value := q.flatMap (fun f => [.int .i64 (f.1 : Int), .int .i64 (f.2 : Int)])
/-- A queue of facts, in the midst of a block of the call's own. -/
def QAt (w : World) (C : Nat) (v : Value) (q : List (Nat × Nat)) : Prop :=
  (v = .slice none 0 0 ∧ q = []) ∨ ∃ g off cap, v = .slice (some ⟨g, off, none⟩) q.length cap ∧ C ≤ g ∧ g < w.heap.size ∧ q.length ≤ cap ∧ cap ≤ maxLen ∧ w.rangeAt g off (qcells q) ∧ w.there g off (cap * 2)
theorem range_kp {w w' : World} {g o : Nat} {cs : List Value} (h : w.rangeAt g o cs) (e : w'.heap[g]? = w.heap[g]?) : w'.rangeAt g o cs := fun j v hv => (World.cell?_of_block (a := ⟨g, o + j, none⟩) e).trans (h j v hv)
theorem there_kp {w w' : World} {g o n : Nat} (h : w.there g o n) (e : w'.heap[g]? = w.heap[g]?) : w'.there g o n := fun j hj =>
  ⟨by rw [World.cell?_of_block (a := ⟨g, o + j, none⟩) e]; exact (h j hj).1, by rw [World.frozen?_of_block (a := ⟨g, o + j, none⟩) e]; exact (h j hj).2⟩
theorem QAt.kp {X : Nat → Prop} {w w' : World} {C : Nat} {v : Value} {q : List (Nat × Nat)} (h : QAt w C v q) (k : Kp X w w') (hx : ∀ g, v.ownBlock = some g → ¬ X g) : QAt w' C v q := by
  rcases h with h | ⟨g, off, cap, rfl, h1, h2, h3, h4, h5, h6⟩
  · exact .inl h
  · have e := k.block g h2 (hx g rfl)
    exact .inr ⟨g, off, cap, rfl, h1, Nat.lt_of_lt_of_le h2 k.size, h3, h4, range_kp h5 e, there_kp h6 e⟩
theorem QAt.ge {w : World} {C : Nat} {v : Value} {q : List (Nat × Nat)} (h : QAt w C v q) {g : Nat} (hg : v.ownBlock = some g) : C ≤ g ∧ g < w.heap.size := by
  rcases h with ⟨rfl, _⟩ | ⟨g', off, cap, rfl, h1, h2, _⟩
  · cases hg
  · cases hg; exact ⟨h1, h2⟩
theorem QAt.form {w : World} {C : Nat} {v : Value} {q : List (Nat × Nat)} (h : QAt w C v q) : ∃ a cap, v = .slice a q.length cap := by
  rcases h with ⟨rfl, rfl⟩ | ⟨g, off, cap, rfl, _⟩
  · exact ⟨_, _, rfl⟩
  · exact ⟨_, _, rfl⟩
theorem QAt.of_own {w : World} {C : Nat} {v : Value} {n : Nat} {q : List (Nat × Nat)} (hn : n = q.length) (h : w.ownsRow C 200 2 v n (qcells q)) : QAt w C v q := by
  subst hn
  rcases h.2 with ⟨rfl, h0⟩ | ⟨g, cap, cur, rfl, hb, hg, hnc, hm, hs, ht⟩
  · exact .inl ⟨rfl, List.eq_nil_of_length_eq_zero h0⟩
  · refine .inr ⟨g, 0, cap, rfl, hb, (Array.getElem?_eq_some_iff.1 hg).1, hnc, hm, fun j u hu => ?_, fun j hj => ⟨?_, ?_⟩⟩
    · have := h.cells (g := g) rfl j u hu
      rw [Addr.add_mid] at this
      exact this
    · rw [cell_of_row w g _ cur _ (0, 0) hg, Array.getElem?_eq_getElem (by omega)]; rfl
    · simp [World.frozen?, hg]
theorem TB.kp {X : Nat → Prop} {w w' : World} (h : TB w) (k : Kp X w w') (hx : ¬ X 0) : TB w' := fun j hj =>
  (World.cell?_of_block (a := ⟨0, j, none⟩) (k.block _ (World.block_lt_of_cell? w _ (h j hj)) hx)).trans (h j hj)
/-- Where the maker's blocks lie. -/
structure MkI where
  C : Nat
  K : Nat
  M : Nat
  F : Nat
  W0 : Nat
  g0 : Nat
  BY : Nat
  VIA : Nat
  pr : Nat
  lk : Nat
def MkI.n (d : MkI) : Nat := d.pr * d.lk
structure MkI.ok (d : MkI) : Prop where
  o0 : 0 < d.F
  o1 : d.F < d.W0
  o2 : d.W0 < d.g0
  o3 : d.g0 + d.n ≤ d.M
  o4 : d.M < d.K
  o5 : d.K < d.BY
  o6 : d.K < d.VIA
  o7 : d.BY ≠ d.VIA
  o8 : d.BY < d.C
  o9 : d.VIA < d.C
  p64 : d.pr ≤ 64
  l64 : d.lk ≤ 64
/-- The rules of a row: those that look at a role, and, behind these, those that link by a name. -/
def rowL (n : Nat) (rs : List Ru) (p : Nat) : List Ru := if p < n then byR rs p else viaR rs (p - n)
/-- The maker's blocks, but for the family and the queue's row. -/
structure MkB (w : World) (d : MkI) (rs : List Ru) (rv : Nat → Value) (qv : Value) (st : Nat) : Prop where
  mm : Blk w d.M #[.pointer (some ⟨d.F, 0, none⟩), .int .i64 d.pr, .int .i64 d.lk, .int .i64 st]
  kk : Blk w d.K #[.pointer (some ⟨d.M, 0, none⟩), .slice (some ⟨d.BY, 0, none⟩) d.n d.n, .slice (some ⟨d.VIA, 0, none⟩) d.lk d.lk, qv]
  by_ : Blk w d.BY (arrOf d.n rv)
  via : Blk w d.VIA (arrOf d.lk (fun j => rv (d.n + j)))
  own : ∀ p, p < d.n + d.lk → w.ownsRow d.C 196 6 (rv p) (rowL d.n rs p).length ((rowL d.n rs p).flatMap Ru.cells)
  apart : ∀ p q, p < d.n + d.lk → q < d.n + d.lk → p ≠ q → ∀ g, (rv p).ownBlock = some g → (rv q).ownBlock ≠ some g
  qa : ∀ p, p < d.n + d.lk → ∀ g, (rv p).ownBlock = some g → qv.ownBlock ≠ some g
  le : d.C ≤ w.heap.size
theorem MkB.kp {X : Nat → Prop} {w w' : World} {d : MkI} {rs : List Ru} {rv : Nat → Value} {qv : Value} {st : Nat} (h : MkB w d rs rv qv st) (k : Kp X w w') (h1 : ¬ X d.M) (h2 : ¬ X d.K) (h3 : ¬ X d.BY) (h4 : ¬ X d.VIA)
    (h5 : ∀ p, p < d.n + d.lk → ∀ g, (rv p).ownBlock = some g → ¬ X g) : MkB w' d rs rv qv st :=
  ⟨k.blk h.mm h1, k.blk h.kk h2, k.blk h.by_ h3, k.blk h.via h4, fun p hp => k.own (h.own p hp) (h5 p hp), h.apart, h.qa, Nat.le_trans h.le k.size⟩
/-- The maker: its rules, its facts, of which k are looked at, and its steps. -/
structure MkAt (w : World) (d : MkI) (rs : List Ru) (rv : Nat → Value) (fs : List (Nat × Nat)) (k : Nat) (qv : Value) (st : Nat) : Prop where
  b : MkB w d rs rv qv st
  f : FamAt w d.F d.W0 d.g0 d.n d.pr fs
  q : QAt w d.C qv (fs.drop k)
  ok : d.ok
  kl : k ≤ fs.length
  tb : TB w
  sl : fs.length ≤ st
theorem MkAt.kp {X : Nat → Prop} {w w' : World} {d : MkI} {rs : List Ru} {rv : Nat → Value} {fs : List (Nat × Nat)} {k : Nat} {qv : Value} {st : Nat} (h : MkAt w d rs rv fs k qv st) (k' : Kp X w w') (hx : ∀ b, X b → d.C ≤ b) (hr : ∀ p, p < d.n + d.lk → ∀ g, (rv p).ownBlock = some g → ¬ X g) (hq : ∀ g, qv.ownBlock = some g → ¬ X g) : MkAt w' d rs rv fs k qv st := by
  have o := h.ok
  have o0 := o.o0; have o1 := o.o1; have o2 := o.o2; have o3 := o.o3; have o4 := o.o4; have o5 := o.o5; have o6 := o.o6; have o8 := o.o8; have o9 := o.o9
  have no : ∀ b, b < d.C → ¬ X b := fun b hb hxb => by have := hx b hxb; omega
  exact ⟨h.b.kp k' (no _ (by omega)) (no _ (by omega)) (no _ o8) (no _ o9) hr, h.f.kp k' (no _ (by omega)) (no _ (by omega)) (fun i hi => no _ (by omega)), h.q.kp k' hq, o, h.kl, h.tb.kp k' (no _ (by omega)), h.sl⟩
theorem MkAt.below {w w' : World} {d : MkI} {rs : List Ru} {rv : Nat → Value} {fs : List (Nat × Nat)} {k : Nat} {qv : Value} {st : Nat} (h : MkAt w d rs rv fs k qv st) (hb : Below w.heap.size w w') : MkAt w' d rs rv fs k qv st :=
  h.kp (Kp.of_below (X := fun _ => False) hb) (fun _ h => h.elim) (fun _ _ _ _ => id) (fun _ _ => id)
/-- What add changes. -/
def mkX (d : MkI) (qv : Value) (b : Nat) : Prop := b = d.M ∨ b = d.K ∨ famX d.F d.g0 d.n b ∨ some b = qv.ownBlock
/-- The queue's row lies where it lay, or anew. -/
def qNew (w : World) (qv qv' : Value) : Prop := qv'.ownBlock = qv.ownBlock ∨ ∃ b, qv'.ownBlock = some b ∧ w.heap.size ≤ b
theorem qNew.refl (w : World) (qv : Value) : qNew w qv qv := .inl rfl
theorem qNew.trans {w w1 : World} {a b c : Value} (h : qNew w a b) (g : qNew w1 b c) (hs : w.heap.size ≤ w1.heap.size) : qNew w a c := by
  rcases g with g | ⟨x, hx, hl⟩
  · rcases h with h | ⟨y, hy, hm⟩
    · exact .inl (g.trans h)
    · exact .inr ⟨y, g.trans hy, hm⟩
  · exact .inr ⟨x, hx, Nat.le_trans hs hl⟩
theorem mkX_sub {w : World} {d : MkI} {qv qv' : Value} (h : qNew w qv qv') : ∀ b, b < w.heap.size → mkX d qv' b → mkX d qv b := by
  rintro b hb (h1 | h1 | h1 | h1)
  · exact .inl h1
  · exact .inr (.inl h1)
  · exact .inr (.inr (.inl h1))
  · rcases h with h | ⟨x, hx, hl⟩
    · exact .inr (.inr (.inr (h1.trans h)))
    · rw [hx] at h1; cases h1; omega
end Go.Proofs.YtcmdhfccdkjenaaGreatDoor
namespace Go.Proofs.YtcmdhfccdkjenaaGreatDoor
open Go.RowKit Go.Shelf

theorem mkB_steps {w : World} {d : MkI} {rs : List Ru} {rv : Nat → Value} {qv : Value} {st : Nat} (h : MkB w d rs rv qv st) (o : d.ok) (st' : Nat) :
    MkB (w.setCell ⟨d.M, 3, none⟩ (.int .i64 st')) d rs rv qv st' := by
  have k : Kp (fun b => b = d.M) w (w.setCell ⟨d.M, 3, none⟩ (.int .i64 st')) := Kp.set rfl
  have o4 := o.o4; have o5 := o.o5; have o6 := o.o6; have o8 := o.o8
  refine ⟨?_, k.blk h.kk (by omega), k.blk h.by_ (by omega), k.blk h.via (by omega), fun p hp => k.own (h.own p hp) (fun g hg e => ?_), h.apart, h.qa, Nat.le_trans h.le k.size⟩
  · simpa using h.mm.put (o := 3) (v := .int .i64 st') (by simp)
  · have := ((h.own p hp).lt g hg).1
    omega
theorem addF_pre (fs : List (Nat × Nat)) (r c : Nat) : ∃ news, addF fs r c = fs ++ news ∧ ∀ f ∈ news, f = (r, c) := by
  unfold addF
  split
  · exact ⟨[], by simp, fun f h => by cases h⟩
  · exact ⟨[(r, c)], rfl, fun f h => List.mem_singleton.1 h⟩
/-- What a call leaves of the maker: more facts, and more steps, and what lay elsewhere. -/
structure MkMore (w : World) (d : MkI) (rs : List Ru) (rv : Nat → Value) (fs : List (Nat × Nat)) (k : Nat) (qv : Value) (w' : World) (fs' : List (Nat × Nat)) (qv' : Value) (st' : Nat) : Prop where
  a : MkAt w' d rs rv fs' k qv' st'
  kp : Kp (mkX d qv) w w'
  qn : qNew w qv qv'
theorem MkMore.trans {w w1 w2 : World} {d : MkI} {rs : List Ru} {rv : Nat → Value} {fs fs1 fs2 : List (Nat × Nat)} {k : Nat} {qv qv1 qv2 : Value} {st1 st2 : Nat} (h : MkMore w d rs rv fs k qv w1 fs1 qv1 st1) (g : MkMore w1 d rs rv fs1 k qv1 w2 fs2 qv2 st2) :
    MkMore w d rs rv fs k qv w2 fs2 qv2 st2 := ⟨g.a, h.kp.trans g.kp (mkX_sub h.qn), h.qn.trans g.qn h.kp.size⟩
theorem MkMore.start {w : World} {d : MkI} {rs : List Ru} {rv : Nat → Value} {fs : List (Nat × Nat)} {k : Nat} {qv : Value} {st : Nat} (h : MkAt w d rs rv fs k qv st) : MkMore w d rs rv fs k qv w fs qv st := ⟨h, Kp.refl _ _, qNew.refl _ _⟩
end Go.Proofs.YtcmdhfccdkjenaaGreatDoor
namespace Go.Proofs.YtcmdhfccdkjenaaGreatDoor
open Go.RowKit Go.Shelf

/-- Facts of a role b were added, of those that a role a has. -/
structure AllOf (fs : List (Nat × Nat)) (a b : Nat) (l : List Nat) (fs' : List (Nat × Nat)) : Prop where
  pre : ∃ news, fs' = fs ++ news
  all : ∀ c ∈ l, (b, c) ∈ fs'
  only : ∀ f ∈ fs', f ∈ fs ∨ ∃ c, f = (b, c) ∧ (a, c) ∈ fs
end Go.Proofs.YtcmdhfccdkjenaaGreatDoor
namespace Go.Proofs.YtcmdhfccdkjenaaGreatDoor
open Go.RowKit Go.Shelf

structure LookA (lk : Nat) (f : Nat × Nat) (fs fs' : List (Nat × Nat)) (r : Ru) : Prop where
  incl : r.k = 2 → (r.h.toNat, f.2) ∈ fs'
  both : r.k = 4 → (r.a.toNat, f.2) ∈ fs → (r.b.toNat, f.2) ∈ fs → (r.h.toNat, f.2) ∈ fs'
  link : r.k = 3 → ∀ y, (f.2 * lk + r.via.toNat, y) ∈ fs → (r.h.toNat, y) ∈ fs'
theorem LookA.mono {lk : Nat} {f : Nat × Nat} {fs fs1 fs2 : List (Nat × Nat)} {r : Ru} (h : LookA lk f fs fs1 r) (hs : ∀ g ∈ fs1, g ∈ fs2) : LookA lk f fs fs2 r :=
  ⟨fun e => hs _ (h.incl e), fun e a b => hs _ (h.both e a b), fun e y hy => hs _ (h.link e y hy)⟩
/-- More facts, all of them true. -/
structure Grow (lk : Nat) (rs : List Ru) (fs fs' : List (Nat × Nat)) : Prop where
  pre : ∃ news, fs' = fs ++ news
  sound : ∀ E : Nat → Nat → Prop, CloN lk rs E → (∀ g ∈ fs, E g.1 g.2) → ∀ g ∈ fs', E g.1 g.2
theorem Grow.refl (lk : Nat) (rs : List Ru) (fs : List (Nat × Nat)) : Grow lk rs fs fs := ⟨⟨[], by simp⟩, fun _ _ h => h⟩
theorem Grow.trans {lk : Nat} {rs : List Ru} {a b c : List (Nat × Nat)} (h : Grow lk rs a b) (g : Grow lk rs b c) : Grow lk rs a c := by
  obtain ⟨n1, rfl⟩ := h.pre
  obtain ⟨n2, rfl⟩ := g.pre
  exact ⟨⟨n1 ++ n2, by rw [List.append_assoc]⟩, fun E hE h0 => g.sound E hE (h.sound E hE h0)⟩
theorem Grow.sub {lk : Nat} {rs : List Ru} {a b : List (Nat × Nat)} (h : Grow lk rs a b) : ∀ g ∈ a, g ∈ b := by
  obtain ⟨n1, rfl⟩ := h.pre
  exact fun g hg => List.mem_append.2 (.inl hg)
theorem Grow.add {lk : Nat} {rs : List Ru} {fs : List (Nat × Nat)} {r c : Nat} (h : ∀ E : Nat → Nat → Prop, CloN lk rs E → (∀ g ∈ fs, E g.1 g.2) → E r c) : Grow lk rs fs (addF fs r c) := by
  obtain ⟨n, e, hn⟩ := addF_pre fs r c
  refine ⟨⟨n, e⟩, fun E hE h0 g hg => ?_⟩
  rw [e] at hg
  rcases List.mem_append.1 hg with hg | hg
  · exact h0 g hg
  · rw [hn g hg]; exact h E hE h0
theorem Grow.all {lk : Nat} {rs : List Ru} {fs fs' : List (Nat × Nat)} {a b : Nat} {l : List Nat} (h : AllOf fs a b l fs') (hs : ∀ E : Nat → Nat → Prop, CloN lk rs E → (∀ g ∈ fs, E g.1 g.2) → ∀ c, (a, c) ∈ fs → E b c) : Grow lk rs fs fs' :=
  ⟨h.pre, fun E hE h0 g hg => by
    rcases h.only g hg with h1 | ⟨c, rfl, hc⟩
    · exact h0 g h1
    · exact hs E hE h0 c hc⟩
section
variable {w w1 w2 : World} {d : MkI} {rs : List Ru} {rv : Nat → Value} {fs fs1 : List (Nat × Nat)} {k : Nat} {qv qv1 : Value} {st st1 : Nat}
theorem MkMore.below (h : MkMore w d rs rv fs k qv w1 fs1 qv1 st1) (hb : Below w1.heap.size w1 w2) : MkMore w d rs rv fs k qv w2 fs1 qv1 st1 :=
  ⟨h.a.below hb, h.kp.trans (Kp.of_below (X := mkX d qv) hb) (fun _ _ h => h), h.qn⟩
theorem MkAt.steps (h : MkAt w d rs rv fs k qv st) (st' : Nat) (hs : st ≤ st' := by omega) : MkAt (w.setCell ⟨d.M, 3, none⟩ (.int .i64 st')) d rs rv fs k qv st' := by
  have ok := h.ok
  have o0 := ok.o0; have o1 := ok.o1; have o2 := ok.o2; have o3 := ok.o3; have o4 := ok.o4; have o5 := ok.o5; have o8 := ok.o8
  have ks : Kp (fun b => b = d.M) w (w.setCell ⟨d.M, 3, none⟩ (.int .i64 st')) := Kp.set rfl
  exact ⟨mkB_steps h.b ok st', h.f.kp ks (by omega) (by omega) (fun i hi => by omega), h.q.kp ks (fun g hg e => by have := (h.q.ge hg).1; omega), ok, h.kl, h.tb.kp ks (by omega), Nat.le_trans h.sl hs⟩
theorem MkMore.steps (h : MkMore w d rs rv fs k qv w1 fs1 qv1 st1) (st' : Nat) (hs : st1 ≤ st' := by omega) : MkMore w d rs rv fs k qv (w1.setCell ⟨d.M, 3, none⟩ (.int .i64 st')) fs1 qv1 st' :=
  ⟨h.a.steps st' hs, h.kp.trans (Kp.set (X := mkX d qv) (.inl rfl)) (fun _ _ h => h), h.qn⟩
end
end Go.Proofs.YtcmdhfccdkjenaaGreatDoor
namespace Go.Proofs.YtcmdhfccdkjenaaGreatDoor
open Go.RowKit Go.Shelf

/-- Two rows of the call's own in blocks of their own. -/
structure RowsTwo (w0 : World) (e : TypeId) (size : Nat) (v1 : Value) (n1 : Nat) (x1 : List Value) (v2 : Value) (n2 : Nat) (x2 : List Value) (w : World) : Prop where
  low : Below w0.heap.size w0 w
  o1 : w.ownsRow w0.heap.size e size v1 n1 x1
  o2 : w.ownsRow w0.heap.size e size v2 n2 x2
  ne : ∀ k, some k = v1.ownBlock → some k ≠ v2.ownBlock
/-- A second row begins. -/
theorem RowsTwo.new {w0 w : World} {e : TypeId} {size n1 : Nat} {v1 : Value} {x1 : List Value} (hb : Below w0.heap.size w0 w) (h : w.ownsRow w0.heap.size e size v1 n1 x1) :
    RowsTwo w0 e size v1 n1 x1 (.slice (some ⟨w.heap.size, 0, none⟩) 0 0) 0 [] (w.alloc (.cells #[] e)) :=
  ⟨hb.alloc hb.size _, h.alloc _, World.ownsRow_made w #[] 0 hb.size (Nat.zero_le _) (by simp), fun k hk he => by
    have := (h.lt k hk.symm).2
    injection he with he
    dsimp only at he
    omega⟩
end Go.Proofs.YtcmdhfccdkjenaaGreatDoor
namespace Go.Proofs.YtcmdhfccdkjenaaGreatDoor
open Go.RowKit Go.Shelf

/-- The rows behind a rule that one row takes. -/
def rowPut (rv : Nat → Value) (p : Nat) (v : Value) : Nat → Value := fun q => if q = p then v else rv q
theorem kp_low {X : Nat → Prop} {w w' : World} {n : Nat} (h : Kp X w w') (hn : n ≤ w.heap.size) (hx : ∀ b, X b → n ≤ b) : Below n w w' := h.below hn (fun b hb hxb => by have := hx b hxb; omega)
/-- The maker, some rows of which have taken a rule already: rl tells the rows. -/
structure MkR (w : World) (d : MkI) (rl : Nat → List Ru) (rv : Nat → Value) (fs : List (Nat × Nat)) (k : Nat) (qv : Value) (st : Nat) : Prop where
  mm : Blk w d.M #[.pointer (some ⟨d.F, 0, none⟩), .int .i64 d.pr, .int .i64 d.lk, .int .i64 st]
  kk : Blk w d.K #[.pointer (some ⟨d.M, 0, none⟩), .slice (some ⟨d.BY, 0, none⟩) d.n d.n, .slice (some ⟨d.VIA, 0, none⟩) d.lk d.lk, qv]
  by_ : Blk w d.BY (arrOf d.n rv)
  via : Blk w d.VIA (arrOf d.lk (fun j => rv (d.n + j)))
  own : ∀ p, p < d.n + d.lk → w.ownsRow d.C 196 6 (rv p) (rl p).length ((rl p).flatMap Ru.cells)
  apart : ∀ p q, p < d.n + d.lk → q < d.n + d.lk → p ≠ q → ∀ g, (rv p).ownBlock = some g → (rv q).ownBlock ≠ some g
  qa : ∀ p, p < d.n + d.lk → ∀ g, (rv p).ownBlock = some g → qv.ownBlock ≠ some g
  le : d.C ≤ w.heap.size
  f : FamAt w d.F d.W0 d.g0 d.n d.pr fs
  q : QAt w d.C qv (fs.drop k)
  ok : d.ok
  kl : k ≤ fs.length
  tb : TB w
  sl : fs.length ≤ st
section
variable {w w' : World} {d : MkI} {rl : Nat → List Ru} {rs : List Ru} {rv : Nat → Value} {fs : List (Nat × Nat)} {k : Nat} {qv : Value} {st : Nat}
theorem MkAt.r (h : MkAt w d rs rv fs k qv st) : MkR w d (rowL d.n rs) rv fs k qv st := ⟨h.b.mm, h.b.kk, h.b.by_, h.b.via, h.b.own, h.b.apart, h.b.qa, h.b.le, h.f, h.q, h.ok, h.kl, h.tb, h.sl⟩
theorem MkR.at (h : MkR w d rl rv fs k qv st) (e : ∀ p, p < d.n + d.lk → rl p = rowL d.n rs p) : MkAt w d rs rv fs k qv st :=
  ⟨⟨h.mm, h.kk, h.by_, h.via, fun p hp => by rw [← e p hp]; exact h.own p hp, h.apart, h.qa, h.le⟩, h.f, h.q, h.ok, h.kl, h.tb, h.sl⟩
theorem MkR.kp {X : Nat → Prop} (h : MkR w d rl rv fs k qv st) (k' : Kp X w w') (hx : ∀ b, X b → d.C ≤ b) (hr : ∀ p, p < d.n + d.lk → ∀ g, (rv p).ownBlock = some g → ¬ X g) (hq : ∀ g, qv.ownBlock = some g → ¬ X g) : MkR w' d rl rv fs k qv st := by
  have o := h.ok
  have o0 := o.o0; have o1 := o.o1; have o2 := o.o2; have o3 := o.o3; have o4 := o.o4; have o5 := o.o5; have o6 := o.o6; have o8 := o.o8; have o9 := o.o9
  have no : ∀ b, b < d.C → ¬ X b := fun b hb hxb => by have := hx b hxb; omega
  exact ⟨k'.blk h.mm (no _ (by omega)), k'.blk h.kk (no _ (by omega)), k'.blk h.by_ (no _ o8), k'.blk h.via (no _ o9), fun p hp => k'.own (h.own p hp) (hr p hp), h.apart, h.qa, Nat.le_trans h.le k'.size,
    h.f.kp k' (no _ (by omega)) (no _ (by omega)) (fun i hi => no _ (by omega)), h.q.kp k' hq, o, h.kl, h.tb.kp k' (no _ (by omega)), h.sl⟩
theorem MkR.below (h : MkR w d rl rv fs k qv st) (hb : Below w.heap.size w w') : MkR w' d rl rv fs k qv st :=
  h.kp (Kp.of_below (X := fun _ => False) hb) (fun _ h => h.elim) (fun _ _ _ _ => id) (fun _ _ => id)
theorem MkR.steps (h : MkR w d rl rv fs k qv st) (st' : Nat) (hs : st ≤ st' := by omega) : MkR (w.setCell ⟨d.M, 3, none⟩ (.int .i64 st')) d rl rv fs k qv st' := by
  have o := h.ok
  have o0 := o.o0; have o1 := o.o1; have o2 := o.o2; have o3 := o.o3; have o4 := o.o4; have o5 := o.o5; have o6 := o.o6; have o8 := o.o8; have o9 := o.o9
  have ks : Kp (fun b => b = d.M) w (w.setCell ⟨d.M, 3, none⟩ (.int .i64 st')) := Kp.set rfl
  refine ⟨by simpa using h.mm.put (o := 3) (v := .int .i64 st') (by simp), ks.blk h.kk (by omega), ks.blk h.by_ (by omega), ks.blk h.via (by omega), fun p hp => ks.own (h.own p hp) (fun g hg e => ?_), h.apart, h.qa, Nat.le_trans h.le ks.size,
    h.f.kp ks (by omega) (by omega) (fun i hi => by omega), h.q.kp ks (fun g hg e => by have := (h.q.ge hg).1; omega), o, h.kl, h.tb.kp ks (by omega), Nat.le_trans h.sl hs⟩
  have := ((h.own p hp).lt g hg).1
  omega
/-- A row has taken a rule: its slice lies in the cell of its block. -/
theorem MkR.put (h : MkR w d rl rv fs k qv st) {p : Nat} (hp : p < d.n + d.lk) {v' : Value} {w1 : World} {r : Ru} (ho : w1.ownsRow d.C 196 6 v' (rl p ++ [r]).length ((rl p ++ [r]).flatMap Ru.cells)) (hg : w.grownBy w1 (rv p).ownBlock)
    (hn : ∀ b, b < w.heap.size → some b ≠ (rv p).ownBlock → some b ≠ v'.ownBlock) :
    MkR (w1.setCell (if p < d.n then ⟨d.BY, p, none⟩ else ⟨d.VIA, p - d.n, none⟩) v') d (fun q => if q = p then rl p ++ [r] else rl q) (rowPut rv p v') fs k qv st ∧ Below d.F w (w1.setCell (if p < d.n then ⟨d.BY, p, none⟩ else ⟨d.VIA, p - d.n, none⟩) v') := by
  have o := h.ok
  have o0 := o.o0; have o1 := o.o1; have o2 := o.o2; have o3 := o.o3; have o4 := o.o4; have o5 := o.o5; have o6 := o.o6; have o7 := o.o7; have o8 := o.o8; have o9 := o.o9
  have k1 : Kp (fun b => some b = (rv p).ownBlock) w w1 := Kp.of_grown hg (fun b hb => hb)
  have hge : ∀ p, p < d.n + d.lk → ∀ g, (rv p).ownBlock = some g → d.C ≤ g := fun p hp g hg => ((h.own p hp).lt g hg).1
  have hC : d.C ≤ w.heap.size := h.le
  have hX : ∀ b, b < d.C → ¬ some b = (rv p).ownBlock := fun b hb e => by have := hge p hp b e.symm; omega
  have hvX : ∀ g, v'.ownBlock = some g → d.C ≤ g := fun g hg => (ho.lt g hg).1
  obtain ⟨A, hA⟩ : ∃ A : Addr, A = (if p < d.n then (⟨d.BY, p, none⟩ : Addr) else ⟨d.VIA, p - d.n, none⟩) := ⟨_, rfl⟩
  rw [← hA]
  have hAb : A.block = d.BY ∨ A.block = d.VIA := by
    rw [hA]
    by_cases hpn : p < d.n
    · rw [if_pos hpn]; exact .inl rfl
    · rw [if_neg hpn]; exact .inr rfl
  have hAC : A.block < d.C := by rcases hAb with e | e <;> rw [e] <;> assumption
  have hAK : d.K < A.block := by rcases hAb with e | e <;> rw [e] <;> assumption
  have k2 : Kp (fun b => b = A.block) w1 (w1.setCell A v') := ⟨rfl, rfl, rfl, by simp [World.setCell], fun j _ hj => Below.heap_setCell _ _ _ _ hj⟩
  have k3 : Kp (fun b => some b = (rv p).ownBlock ∨ b = A.block) w (w1.setCell A v') := (k1.sub (fun b _ h => .inl h)).trans (k2.sub (Y := fun b => some b = (rv p).ownBlock ∨ b = A.block) (fun b _ h => .inr h)) (fun _ _ h => h)
  have no : ∀ b, b < d.C → b ≠ A.block → ¬ (some b = (rv p).ownBlock ∨ b = A.block) := fun b hb hne h => h.elim (hX b hb) hne
  have hby : Blk w1 d.BY (arrOf d.n rv) := k1.blk h.by_ (hX _ o8)
  have hvia : Blk w1 d.VIA (arrOf d.lk (fun j => rv (d.n + j))) := k1.blk h.via (hX _ o9)
  refine ⟨⟨k3.blk h.mm (no _ (by omega) (by omega)), k3.blk h.kk (no _ (by omega) (by omega)), ?_, ?_, ?_, ?_, ?_, Nat.le_trans h.le k3.size, h.f.kp k3 (no _ (by omega) (by omega)) (no _ (by omega) (by omega)) (fun i hi => no _ (by omega) (by omega)), h.q.kp k3 ?_, o, h.kl, h.tb.kp k3 (no _ (by omega) (by omega)), h.sl⟩, kp_low k3 (Nat.le_of_lt h.f.ff.2.2) ?_⟩
  · by_cases hpn : p < d.n
    · rw [hA, if_pos hpn]
      have := hby.put (o := p) (v := v') (by rw [arrOf_size]; exact hpn)
      rw [arrOf_set _ _ _ _ hpn] at this
      exact this
    · rw [hA, if_neg hpn]
      have := hby.far (g := d.VIA) (o := p - d.n) (v := v') (by omega)
      rw [arrOf_congr (f := rv) (g := rowPut rv p v') (fun i hi => by unfold rowPut; rw [if_neg (by omega)])] at this
      exact this
  · by_cases hpn : p < d.n
    · rw [hA, if_pos hpn]
      have := hvia.far (g := d.BY) (o := p) (v := v') (by omega)
      rw [arrOf_congr (g := fun j => rowPut rv p v' (d.n + j)) (fun i hi => by unfold rowPut; rw [if_neg (by omega)])] at this
      exact this
    · rw [hA, if_neg hpn]
      have hpl : p - d.n < d.lk := by omega
      have := hvia.put (o := p - d.n) (v := v') (by rw [arrOf_size]; exact hpl)
      rw [arrOf_set _ _ _ _ hpl, arrOf_congr (g := fun j => rowPut rv p v' (d.n + j)) (fun i hi => by
        unfold rowPut
        by_cases e : i = p - d.n
        · rw [if_pos e, if_pos (by omega)]
        · rw [if_neg e, if_neg (by omega)])] at this
      exact this
  · intro q hq
    by_cases e : q = p
    · subst e
      simp only [rowPut, if_pos]
      exact k2.own ho (fun g hg e => by have := hvX g hg; omega)
    · simp only [rowPut, if_neg e]
      refine k3.own (h.own q hq) (fun g hg hx => ?_)
      rcases hx with hx | hx
      · exact h.apart p q hp hq (fun e' => e e'.symm) g hx.symm hg
      · have := hge q hq g hg; omega
  · intro a b ha hb hab g hga
    unfold rowPut at hga ⊢
    by_cases ea : a = p
    · rw [if_pos ea] at hga
      rw [if_neg (fun e => hab (ea.trans e.symm))]
      intro hgb
      have hlt := ((h.own b hb).lt g hgb).2
      exact hn g hlt (fun e => h.apart p b hp hb (fun e' => hab (ea.trans e')) g e.symm hgb) hga.symm
    · rw [if_neg ea] at hga
      by_cases eb : b = p
      · rw [if_pos eb]
        intro hgb
        have hlt := ((h.own a ha).lt g hga).2
        exact hn g hlt (fun e => h.apart p a hp ha (fun e' => ea e'.symm) g e.symm hga) hgb.symm
      · rw [if_neg eb]; exact h.apart a b ha hb hab g hga
  · intro a ha g hga
    unfold rowPut at hga
    by_cases ea : a = p
    · rw [if_pos ea] at hga
      intro hgq
      have hlt := (h.q.ge hgq).2
      exact hn g hlt (fun e => h.qa p hp g e.symm hgq) hga.symm
    · rw [if_neg ea] at hga; exact h.qa a ha g hga
  · intro g hg hx
    rcases hx with hx | hx
    · exact h.qa p hp g hx.symm hg
    · have := (h.q.ge hg).1; omega
  · rintro b (hx | hx)
    · have := hge p hp b hx.symm; omega
    · omega
end
end Go.Proofs.YtcmdhfccdkjenaaGreatDoor
namespace Go.Proofs.YtcmdhfccdkjenaaGreatDoor
open Go.RowKit Go.Shelf

end Go.Proofs.YtcmdhfccdkjenaaGreatDoor
namespace Go.Proofs.YtcmdhfccdkjenaaGreatDoor
open Go.RowKit Go.Shelf

end Go.Proofs.YtcmdhfccdkjenaaGreatDoor
namespace Go.Proofs.YtcmdhfccdkjenaaGreatDoor
open Go.RowKit Go.Shelf

/-- The call's own blocks. -/
structure RightAt (w : World) (p l : Int) (A B : Array Value) (wx : World) : Prop where
  p : Blk wx w.heap.size #[.int .i64 p]
  l : Blk wx (w.heap.size + 1) #[.int .i64 l]
  a : Blk wx (w.heap.size + 1 + 1) A
  b : Blk wx (w.heap.size + 1 + 1 + 1) B
  low : Below w.heap.size w wx
theorem RightAt.put {w wx : World} {p l : Int} {A B C : Array Value} {o : Nat} {v : Value} (h : RightAt w p l A B wx) (ho : o < B.size) (hC : B.setIfInBounds o v = C) : RightAt w p l A C (wx.setCell ⟨w.heap.size + 1 + 1 + 1, o, none⟩ v) :=
  ⟨h.p.far (by omega), h.l.far (by omega), h.a.far (by omega), by rw [← hC]; exact h.b.put (o := o) (v := v) ho, below_put h.low (by omega)⟩
theorem RightAt.drew {w wx : World} {p l : Int} {A B : Array Value} (h : RightAt w p l A B wx) : RightAt w p l A B wx.drew :=
  have hb : Below wx.heap.size wx wx.drew := below_drew (Below.refl _ _)
  ⟨h.p.below hb, h.l.below hb, h.a.below hb, h.b.below hb, h.low.trans (hb.mono h.low.size)⟩
theorem RightAt.new (w : World) (p l : Int) (A B : Array Value) (t u : TypeId) : RightAt w p l A B ((((w.alloc (.cells #[.int .i64 p] t)).alloc (.cells #[.int .i64 l] t)).alloc (.cells A u)).alloc (.cells B u)) :=
  ⟨(((Blk.new w _ t).alloc _).alloc _).alloc _,
   by have := (((Blk.new (w.alloc (.cells #[.int .i64 p] t)) #[.int .i64 l] t).alloc (.cells A u)).alloc (.cells B u)); simpa using this,
   by have := ((Blk.new ((w.alloc (.cells #[.int .i64 p] t)).alloc (.cells #[.int .i64 l] t)) A u).alloc (.cells B u)); simpa using this,
   by have := (Blk.new (((w.alloc (.cells #[.int .i64 p] t)).alloc (.cells #[.int .i64 l] t)).alloc (.cells A u)) B u); simpa using this,
   ((((Below.refl _ _).alloc (Nat.le_refl _) _).alloc (by simp) _).alloc (by simp; omega) _).alloc (by simp; omega) _⟩
section
variable {p l : Nat} {rh who ra rb via : Int}
end
end Go.Proofs.YtcmdhfccdkjenaaGreatDoor
namespace Go.Proofs.YtcmdhfccdkjenaaGreatDoor
open Go.RowKit Go.Shelf

/-- The maker, at its beginning. -/
theorem MkAt.new {w : World} {d : MkI} (ok : d.ok) (hf : FamAt w d.F d.W0 d.g0 d.n d.pr []) (hm : Blk w d.M #[.pointer (some ⟨d.F, 0, none⟩), .int .i64 d.pr, .int .i64 d.lk, .int .i64 (0 : Nat)])
    (hk : Blk w d.K #[.pointer (some ⟨d.M, 0, none⟩), .slice (some ⟨d.BY, 0, none⟩) d.n d.n, .slice (some ⟨d.VIA, 0, none⟩) d.lk d.lk, .slice none 0 0]) (hb : Blk w d.BY (arrOf d.n (fun _ => .slice none 0 0))) (hv : Blk w d.VIA (arrOf d.lk (fun _ => .slice none 0 0)))
    (hC : d.C ≤ w.heap.size) (ht : TB w) : MkAt w d [] (fun _ => .slice none 0 0) [] 0 (.slice none 0 0) 0 :=
  ⟨⟨hm, hk, hb, hv, fun p _ => by
      have e : rowL d.n [] p = [] := by unfold rowL byR viaR; split <;> rfl
      rw [e]; exact World.ownsRow_nil _ _ _ _, fun p q _ _ _ g hg => by simp [Value.ownBlock] at hg, fun p _ g hg => by simp [Value.ownBlock] at hg, hC⟩, hf, .inl ⟨rfl, rfl⟩, ok, Nat.le_refl _, ht, Nat.le_refl _⟩
theorem QAt.last {w : World} {C : Nat} {g off n cap : Nat} {f : Nat × Nat} {q : List (Nat × Nat)} (h : QAt w C (.slice (some ⟨g, off, none⟩) n cap) (f :: q)) (hc : cap = 1) : QAt w C (.slice (some ⟨g, off, none⟩) q.length 0) q := by
  rcases h with ⟨h, _⟩ | ⟨g', off', cap', h, h1, h2, h3, h4, h5, h6⟩
  · cases h
  · simp only [Value.slice.injEq, Option.some.injEq, Addr.mk.injEq] at h
    obtain ⟨⟨rfl, rfl, _⟩, rfl, rfl⟩ := h
    rw [List.length_cons] at h3
    have e : q = [] := List.eq_nil_of_length_eq_zero (by omega)
    subst e
    exact .inr ⟨g, off, 0, rfl, h1, h2, Nat.le_refl _, by omega, fun j v hv => by simp [qcells] at hv, fun j hj => by omega⟩
/-- The rules that may be, of those that were handed. -/
def goodR (p l : Nat) (rules : List Ru) : List Ru := rules.filter (okRu p l)
/-- A model in a world. -/
structure ModAt (w : World) (M F W0 g0 p l : Nat) (fs : List (Nat × Nat)) (st : Nat) : Prop where
  mm : Blk w M #[.pointer (some ⟨F, 0, none⟩), .int .i64 p, .int .i64 l, .int .i64 st]
  f : FamAt w F W0 g0 (p * l) p fs
  sl : fs.length ≤ st
theorem ModAt.below {w w' : World} {M F W0 g0 p l : Nat} {fs : List (Nat × Nat)} {st : Nat} (h : ModAt w M F W0 g0 p l fs st) (hb : Below w.heap.size w w') : ModAt w' M F W0 g0 p l fs st := ⟨h.mm.below hb, h.f.below hb, h.sl⟩
end Go.Proofs.YtcmdhfccdkjenaaGreatDoor
namespace Go.Proofs.YtcmdhfccdkjenaaGreatDoor
open Go.RowKit Go.Shelf

end Go.Proofs.YtcmdhfccdkjenaaGreatDoor
namespace Go.Proofs.YtcmdhfccdkjenaaGreatDoor
open Go.RowKit Go.Shelf

/-- A table and a model of statements. -/
structure TmAt (w : World) (t M : Nat) (PS NS : List ByteArray) (l : List St) (fs : List (Nat × Nat)) (st : Nat) : Prop where
  tbl : ∃ ba bb, TblAt w t ba bb PS NS
  mod : ∃ F W0 g0, ModAt w M F W0 g0 PS.length NS.length fs st
  least : LeastN NS.length (goodR PS.length NS.length (rulesN PS NS l)) (fun r x => (r, x) ∈ fs)
  steps : st ≤ 2 * (rulesN PS NS l).length + fs.length * ((rulesN PS NS l).length * (PS.length + 3))
theorem TmAt.rng {w : World} {t M : Nat} {PS NS : List ByteArray} {l : List St} {fs : List (Nat × Nat)} {st : Nat} (h : TmAt w t M PS NS l fs st) : ∀ f ∈ fs, f.2 < PS.length := by
  obtain ⟨F, W0, g0, h2⟩ := h.mod
  exact fun f hf => (h2.f.rng f hf).2
theorem TmAt.sl {w : World} {t M : Nat} {PS NS : List ByteArray} {l : List St} {fs : List (Nat × Nat)} {st : Nat} (h : TmAt w t M PS NS l fs st) : fs.length ≤ st := by
  obtain ⟨F, W0, g0, h2⟩ := h.mod
  exact h2.sl
theorem TmAt.below {w w' : World} {t M : Nat} {PS NS : List ByteArray} {l : List St} {fs : List (Nat × Nat)} {st : Nat} (h : TmAt w t M PS NS l fs st) (hb : Below w.heap.size w w') : TmAt w' t M PS NS l fs st := by
  obtain ⟨ba, bb, h1⟩ := h.tbl
  obtain ⟨F, W0, g0, h2⟩ := h.mod
  exact ⟨⟨ba, bb, h1.below hb⟩, ⟨F, W0, g0, h2.below hb⟩, h.least, h.steps⟩
theorem rulesN_len (a b : List ByteArray) (l : List St) : (rulesN a b l).length ≤ l.length := by
  have := flatMap_le (ruleS a b) 1 (ruleS_len a b) l
  unfold rulesN
  omega
end Go.Proofs.YtcmdhfccdkjenaaGreatDoor
namespace Go.Proofs.YtcmdhfccdkjenaaGreatDoor
open Go.RowKit Go.Shelf

/-- A policy with one query alone. -/
theorem sim_Only (v0 v1 v2 v3 : Value) (l : List St) (g h : List Rl) (qs : List Qv) (q : Qv) (w : World) (hp : PolAt w v0 v1 v2 v3 l g h qs) :
    Calls Tryz.prog 29 #[pv v0 v1 v2 v3, qv q] w fun e w' => ∃ vq, e = .returned (pv v0 v1 v2 vq) ∧ SlA w' 6 vq 1 q.cells ∧ Below w.heap.size w w' := by
  obtain ⟨a0, c0, rfl⟩ := hp.rs.form
  obtain ⟨a1, c1, rfl⟩ := hp.rg.form
  obtain ⟨a2, c2, rfl⟩ := hp.rh.form
  obtain ⟨a3, c3, rfl⟩ := hp.rq.form
  clear hp
  obtain ⟨xk, ⟨x1, x2⟩, ⟨x3, x4⟩, wv⟩ := q
  go_enter Tryz.func29, Tryz.ntmps29
  go_wp2
  refine bodyPost_ret (v := pv (.slice a0 l.length c0) (.slice a1 g.length c1) (.slice a2 h.length c2) (.slice (some ⟨w.heap.size + 3, 0, none⟩) 1 1)) (by simp [results, Tryz.results29, go_sem]) rfl ?_
  refine ⟨_, rfl, (Sl.new _ [.int .i64 xk, .string x1, .string x2, .string x3, .string x4, wv] _ 6 1 (w.heap.size + 3) (by simp) rfl (by decide)).a, ?_⟩
  exact ((((Below.refl _ _).alloc (Nat.le_refl _) _).alloc (by simp) _).alloc (by simp; omega) _).alloc (by simp; omega) _
theorem PolAt.only {w w' : World} {v0 v1 v2 v3 vq : Value} {l : List St} {g h : List Rl} {qs : List Qv} {q : Qv} (hp : PolAt w v0 v1 v2 v3 l g h qs) (hb : Below w.heap.size w w') (hq : SlA w' 6 vq 1 q.cells) (hok : q.ok w) : PolAt w' v0 v1 v2 vq l g h [q] := by
  have h2 := hp.below hb
  exact ⟨h2.rs, h2.rg, h2.rh, by simpa using hq, h2.ls, h2.lg, h2.lh, fun x hx => by rw [List.mem_singleton.1 hx]; exact hok.below hb⟩
/-- May a query be, and is it not of one role in another one? -/
theorem sim_Is (q : Qv) (us : List ByteArray) (w : World) (hla : q.a.le 4294967) (hlb : q.b.le 4294967) (hu1 : SlA w 1 q.w us.length (strs us)) (hu3 : ∀ s ∈ us, s.size ≤ 9223372036854775807) : Calls Tryz.prog 31 #[qv q] w fun e w' => e = .returned (.bool (rightQ q us && !decide (q.k = 6))) ∧ Below w.heap.size w w' := by
  obtain ⟨xk, ⟨x1, x2⟩, ⟨x3, x4⟩, wv⟩ := q
  dsimp only at hu1
  obtain ⟨wo, wc, rfl⟩ := hu1.form
  have HQ := Lib.hid (query_RightL ⟨xk, ⟨x1, x2⟩, ⟨x3, x4⟩, .slice wo us.length wc⟩ us (w.alloc (.cells #[.int .i64 xk, .string x1, .string x2, .string x3, .string x4, .slice wo us.length wc] 45)) hla hlb (hu1.below ((Below.refl _ _).alloc (Nat.le_refl _) _)) hu3)
  have HT := Lib.hid (show OneAt w #[.int .i64 xk, .string x1, .string x2, .string x3, .string x4, .slice wo us.length wc] (w.alloc (.cells #[.int .i64 xk, .string x1, .string x2, .string x3, .string x4, .slice wo us.length wc] 45)) from ⟨Blk.new w _ _, (Below.refl _ _).alloc (Nat.le_refl _) _⟩)
  generalize rightQ ⟨xk, ⟨x1, x2⟩, ⟨x3, x4⟩, .slice wo us.length wc⟩ us = b at *
  clear hu1
  dsimp only
  go_enter Tryz.func31, Tryz.ntmps31
  go_wp2_with fail
  refine HQ.out.mono ?_
  rintro e w1 ⟨rfl, hb1⟩
  have HT := Lib.hid (HT.out.later hb1)
  clear hb1 HQ
  obtain ⟨ca, fa, za⟩ := HT.out.a
  cases b with
  | false =>
    go_wp2
    go_ret
    exact ⟨rfl, HT.out.low⟩
  | true =>
    by_cases h6 : xk = 6
    · subst h6
      go_wp2
      go_ret
      exact ⟨rfl, HT.out.low⟩
    · go_wp2
      go_ret
      exact ⟨by simp [h6], HT.out.low⟩
end Go.Proofs.YtcmdhfccdkjenaaGreatDoor
namespace Go.Proofs.YtcmdhfccdkjenaaGreatDoor
open Go.RowKit Go.Shelf

/-- A block of a type. -/
def CAt (w : World) (b : Nat) (cs : Array Value) (t : TypeId) : Prop := w.heap[b]? = some (.cells cs t (0, 0))
theorem CAt.blk {w : World} {b : Nat} {cs : Array Value} {t : TypeId} (h : CAt w b cs t) : Blk w b cs := blk_of h
theorem CAt.lt {w : World} {b : Nat} {cs : Array Value} {t : TypeId} (h : CAt w b cs t) : b < w.heap.size := (Array.getElem?_eq_some_iff.1 h).1
theorem CAt.below {w w' : World} {b : Nat} {cs : Array Value} {t : TypeId} (h : CAt w b cs t) (hb : Below w.heap.size w w') : CAt w' b cs t := (hb.block b h.lt).trans h
theorem CAt.alloc {w : World} {b : Nat} {cs : Array Value} {t : TypeId} (h : CAt w b cs t) (o : Obj) : CAt (w.alloc o) b cs t := h.below ((Below.refl _ _).alloc (Nat.le_refl _) o)
theorem CAt.grown {w w' : World} {b base size n : Nat} {cs : Array Value} {t e : TypeId} {v : Value} {xs : List Value} (h : CAt w b cs t) (ho : w.ownsRow base e size v n xs) (hg : w.grownBy w' v.ownBlock) (ht : t ≠ e) : CAt w' b cs t :=
  (hg.block b h.lt (own_tag ho h ht)).trans h
/-- What a round has found. -/
structure Found (ps qs : List Pr) (b : Bool) : Prop where
  no : b = false → qs = ps
  yes : b = true → ps.length < qs.length
theorem Found.le {ps qs : List Pr} {b : Bool} (h : Found ps qs b) : ps.length ≤ qs.length := by
  cases b
  · rw [h.no rfl]; exact Nat.le_refl _
  · exact Nat.le_of_lt (h.yes rfl)
end Go.Proofs.YtcmdhfccdkjenaaGreatDoor
namespace Go.Proofs.YtcmdhfccdkjenaaGreatDoor
open Go.RowKit Go.Shelf

theorem right_kinds {s : St} (h : rightS s = true) : s.k = 1 ∨ s.k = 2 ∨ s.k = 3 ∨ s.k = 4 := by
  unfold rightS at h
  by_cases h1 : s.k = 1
  · exact .inl h1
  by_cases h2 : s.k = 2
  · exact .inr (.inl h2)
  by_cases h3 : s.k = 3
  · exact .inr (.inr (.inl h3))
  by_cases h4 : s.k = 4
  · exact .inr (.inr (.inr h4))
  rw [if_neg h1, if_neg h2, if_neg h3, if_neg h4, Bool.and_false] at h
  cases h
end Go.Proofs.YtcmdhfccdkjenaaGreatDoor
namespace Go.Proofs.YtcmdhfccdkjenaaGreatDoor
open Go.RowKit Go.Shelf

end Go.Proofs.YtcmdhfccdkjenaaGreatDoor
namespace Go.Proofs.YtcmdhfccdkjenaaGreatDoor
open Go.RowKit Go.Shelf

end Go.Proofs.YtcmdhfccdkjenaaGreatDoor
namespace Go.Proofs.YtcmdhfccdkjenaaGreatDoor
open Go.RowKit Go.Shelf

section
variable {α : Type} {l : List α} {p : α → Bool}
end

def stays (h : List Rl) (m : List St) (s : St) : Bool := hasR h s.h && !hasS m s
end Go.Proofs.YtcmdhfccdkjenaaGreatDoor
namespace Go.Proofs.YtcmdhfccdkjenaaGreatDoor
open Go.RowKit Go.Shelf

theorem right_roles {s : St} (h : rightS s = true) : (∀ r ∈ rolesS s, isRole r = true) ∧ (∀ x ∈ whoS s, isP 65 90 (bl x) = true) ∧ ∀ x ∈ viaS s, isP 97 122 (bl x) = true := by
  have hk := right_kinds h
  unfold rightS at h
  rw [Bool.and_eq_true] at h
  obtain ⟨hh, h⟩ := h
  unfold rolesS whoS viaS
  rcases hk with e | e | e | e
  · rw [if_pos e] at h
    simp only [Bool.and_eq_true] at h
    rw [if_neg (by omega), if_neg (by omega), if_pos e, if_neg (by omega)]
    exact ⟨fun r hr => by rw [List.mem_singleton.1 hr]; exact hh, fun x hx => by rw [List.mem_singleton.1 hx]; exact h.1.1.1, fun x hx => by cases hx⟩
  · rw [if_neg (by omega), if_pos e] at h
    simp only [Bool.and_eq_true] at h
    rw [if_pos (.inl e), if_neg (by omega), if_neg (by omega)]
    refine ⟨fun r hr => ?_, fun x hx => (by cases hx), fun x hx => (by cases hx)⟩
    simp only [List.mem_cons, List.not_mem_nil, or_false] at hr
    rcases hr with rfl | rfl
    · exact hh
    · exact h.1.1.2
  · rw [if_neg (by omega), if_neg (by omega), if_pos e] at h
    simp only [Bool.and_eq_true] at h
    rw [if_pos (.inr e), if_neg (by omega), if_pos e]
    refine ⟨fun r hr => ?_, fun x hx => (by cases hx), fun x hx => by rw [List.mem_singleton.1 hx]; exact h.2⟩
    simp only [List.mem_cons, List.not_mem_nil, or_false] at hr
    rcases hr with rfl | rfl
    · exact hh
    · exact h.1.1.2
  · rw [if_neg (by omega), if_neg (by omega), if_neg (by omega), if_pos e] at h
    simp only [Bool.and_eq_true] at h
    rw [if_neg (by omega), if_pos e, if_neg (by omega), if_neg (by omega)]
    refine ⟨fun r hr => ?_, fun x hx => (by cases hx), fun x hx => (by cases hx)⟩
    simp only [List.mem_cons, List.not_mem_nil, or_false] at hr
    rcases hr with rfl | rfl | rfl
    · exact hh
    · exact h.1.1.1.2
    · exact h.1.1.2
theorem role_parts {r : Rl} (h : isRole r = true) : isP 65 90 (bl r.o) = true ∧ isP 97 122 (bl r.n) = true := by
  unfold isRole at h; rwa [Bool.and_eq_true] at h
theorem rightQ_parts {q : Qv} {us : List ByteArray} (h : rightQ q us = true) : (1 ≤ q.k ∧ q.k ≤ 6) ∧ (∀ r ∈ rolesQ q, isRole r = true) ∧ ∀ x ∈ us, isP 65 90 (bl x) = true := by
  unfold rightQ at h
  simp only [Bool.and_eq_true, decide_eq_true_iff] at h
  obtain ⟨h1, h2, h3, h4, h5⟩ := h
  refine ⟨⟨h1, h2⟩, fun r hr => ?_, fun x hx => ?_⟩
  · unfold rolesQ at hr
    by_cases e : q.k = 5 ∨ q.k = 6
    · rw [if_pos e] at hr
      rw [if_pos (by omega)] at h5
      simp only [Bool.and_eq_true] at h5
      simp only [List.mem_cons, List.not_mem_nil, or_false] at hr
      rcases hr with rfl | rfl
      · exact h3
      · exact h5.1
    · rw [if_neg e] at hr
      rw [List.mem_singleton.1 hr]; exact h3
  · obtain ⟨i, hi, rfl⟩ := List.getElem_of_mem hx
    unfold rises at h4
    rw [List.all_eq_true] at h4
    have := h4 i (List.mem_range.2 hi)
    unfold risesAt at this
    rw [Bool.and_eq_true] at this
    rw [List.getD_eq_getElem?_getD, List.getElem?_eq_getElem hi] at this
    exact this.1
theorem RightP.names {l : List St} {g h : List Rl} {qs : List Qv} {F : Qv → List ByteArray} (hr : RightP l g h qs F) : (∀ x ∈ newB (allPrins l g h qs F), isP 65 90 (bl x) = true) ∧ ∀ x ∈ newB (allNames l g h qs), isP 97 122 (bl x) = true := by
  obtain ⟨h1, h2, h3, _⟩ := hr
  have hroles : ∀ r ∈ allRoles l g h qs, isRole r = true := by
    intro r hr
    unfold allRoles at hr
    rw [List.mem_append, List.mem_append, List.mem_append] at hr
    rcases hr with ((hr | hr) | hr) | hr
    · obtain ⟨s, hs, hr⟩ := List.mem_flatMap.1 hr
      exact (right_roles (h1 s hs)).1 r hr
    · exact h2 r (List.mem_append.2 (.inl hr))
    · exact h2 r (List.mem_append.2 (.inr hr))
    · obtain ⟨q, hq, hr⟩ := List.mem_flatMap.1 hr
      exact (rightQ_parts (h3 q hq)).2.1 r hr
  refine ⟨fun x hx => ?_, fun x hx => ?_⟩
  · rw [new_mem] at hx
    unfold allPrins at hx
    rw [List.mem_append, List.mem_append] at hx
    rcases hx with (hx | hx) | hx
    · obtain ⟨r, hr, rfl⟩ := List.mem_map.1 hx
      exact (role_parts (hroles r hr)).1
    · obtain ⟨s, hs, hx⟩ := List.mem_flatMap.1 hx
      exact (right_roles (h1 s hs)).2.1 x hx
    · obtain ⟨q, hq, hx⟩ := List.mem_flatMap.1 hx
      exact (rightQ_parts (h3 q hq)).2.2 x hx
  · rw [new_mem] at hx
    unfold allNames at hx
    rw [List.mem_append] at hx
    rcases hx with hx | hx
    · obtain ⟨r, hr, rfl⟩ := List.mem_map.1 hx
      exact (role_parts (hroles r hr)).2
    · obtain ⟨s, hs, hx⟩ := List.mem_flatMap.1 hx
      exact (right_roles (h1 s hs)).2.2 x hx
end Go.Proofs.YtcmdhfccdkjenaaGreatDoor
namespace Go.Proofs.YtcmdhfccdkjenaaGreatDoor
open Go.RowKit Go.Shelf

theorem rl_Grow (n : Nat) (w : World) (hn : n ≤ 2000) : Calls Tryz.prog 215 #[.slice none 0 0, .int .i64 n] w fun e w' =>
    ∃ a cap, e = .returned (.slice a 0 cap) ∧ w'.ownsRow w.heap.size 28 2 (.slice a 0 cap) 0 [] ∧ Below w.heap.size w w' := by
  by_cases h0 : 0 < n
  · obtain ⟨inf, hinf, hz0, hz1, hz2⟩ := info_parts rl_info'
    refine (Any8.slices_Grow_grow Tryz.growR inf _ hinf hz0 (by omega) none 0 0 n [] w (Nat.le_refl _) (by omega) (by rw [hz2]; omega) (by omega) (by simp) (fun _ => rfl) (fun a h => by cases h)).mono ?_
    rintro e w' ⟨rfl, rfl⟩
    have hge := grownCap_ge w (0 + n) 0 28
    have hle := grownCap_le_maxLen w (0 + n) 0 28 (by simp only [maxLen]; omega)
    refine ⟨_, _, rfl, World.ownsRow_made w.drew _ _ (Nat.le_refl _) hle ?_, (below_drew (Below.refl _ _)).alloc (Nat.le_refl _) _⟩
    rw [Nat.zero_add] at hge hle ⊢
    simp [Builtin.zeroCells, Value.cells]
    rw [show Tryz.growR_ren.t 25 = 28 from rfl]
    omega
  · obtain rfl : n = 0 := by omega
    refine (Any8.slices_Grow_room Tryz.growR none 0 0 0 w (Nat.le_refl _) (by omega) (by omega) (by omega)).mono ?_
    rintro e w' ⟨rfl, rfl⟩
    exact ⟨_, _, rfl, World.ownsRow_nil _ _ _ _, Below.refl _ _⟩
set_option maxRecDepth 100000 in
set_option maxHeartbeats 4000000 in
/-- slices.Concat of two rows. -/
theorem rl_Concat (g : Nat) (va vb : Value) (l m : List Rl) (w : World) (hg : Blk w g #[va, vb]) (ha : SlA w 2 va l.length (l.flatMap Rl.cells)) (hb : SlA w 2 vb m.length (m.flatMap Rl.cells)) (hl : l.length ≤ 1000) (hm : m.length ≤ 1000) :
    Calls Tryz.prog 179 #[.slice (some ⟨g, 0, none⟩) 2 2] w fun e w' => ∃ v, e = .returned v ∧ Sl w' 2 v (l ++ m).length ((l ++ m).flatMap Rl.cells) ∧ Below w.heap.size w w' := by
  have HA := Lib.hid ha
  have HB := Lib.hid hb
  have HG := Lib.hid hg
  obtain ⟨ao, ac, hva⟩ := ha.form
  obtain ⟨bo, bc, hvb⟩ := hb.form
  subst hva hvb
  have GR : Hid (∀ W, Calls Tryz.prog 215 #[.slice none 0 0, .int .i64 ((l.length : Int) + (m.length : Int))] W fun e w' =>
      ∃ a cap, e = .returned (.slice a 0 cap) ∧ w'.ownsRow W.heap.size 28 2 (.slice a 0 cap) 0 [] ∧ Below W.heap.size W w') := Lib.hid (fun W => by
    have h := rl_Grow (l.length + m.length) W (by omega)
    rw [Int.natCast_add] at h
    exact h)
  have c0 : w.cell? ⟨g, 0, none⟩ = some (.slice ao l.length ac) := (hg.1 0).trans rfl
  have c1 : w.cell? ⟨g, 1, none⟩ = some (.slice bo m.length bc) := (hg.1 1).trans rfl
  have hgw : g < w.heap.size := hg.2.2
  clear ha hb hg
  go_enter Tryz.func179, Tryz.ntmps179
  go_wp2
  go_loop [3, 11] (fun n i => (n = .int .i64 0 ∧ i = .int .i64 0) ∨ (n = .int .i64 l.length ∧ i = .int .i64 1) ∨ (n = .int .i64 ((l.length : Int) + (m.length : Int)) ∧ i = .int .i64 2)) (fun _ i => 2 - (intOf i).toNat)
  case atStart => exact .inl ⟨rfl, rfl⟩
  case round =>
    obtain ⟨rfl, rfl⟩ | ⟨rfl, rfl⟩ | ⟨rfl, rfl⟩ := hrel
    · have d : decide ((l.length : Int) < 0) = false := by (rw [decide_eq_false_iff_not]; omega)
      have hw : IntKind.i64.wrap ((0 : Int) + (l.length : Int)) = (l.length : Int) := by rw [Int.zero_add]; exact Go.IntWalk.i64_in _ (by omega)
      go_wp2
      exact ⟨.inr (.inl ⟨rfl, rfl⟩), by simp [intOf]⟩
    · have d : decide ((l.length : Int) + (m.length : Int) < 0) = false := by (rw [decide_eq_false_iff_not]; omega)
      have hw : IntKind.i64.wrap ((l.length : Int) + (m.length : Int)) = (l.length : Int) + (m.length : Int) := Go.IntWalk.i64_in _ (by omega)
      go_wp2
      exact ⟨.inr (.inr ⟨rfl, rfl⟩), by simp [intOf]⟩
    · go_wp2_with fail
      refine (GR.out _).mono ?_
      rintro e w1 ⟨a1, cap1, rfl, hown, hb1⟩
      have HO := Lib.hid hown
      have HB1 := Lib.hid hb1
      clear hown hb1 c0 c1 hgw
      go_wp2_with fail
      go_loopw [6, 27] (fun vo i wr => Hid (Below w.heap.size w wr) ∧ ((i = .int .i64 0 ∧ Hid (wr.ownsRow w.heap.size 28 2 vo 0 [])) ∨ (i = .int .i64 1 ∧ Hid (wr.ownsRow w.heap.size 28 2 vo l.length (l.flatMap Rl.cells))) ∨ (i = .int .i64 2 ∧ Hid (wr.ownsRow w.heap.size 28 2 vo (l.length + m.length) ((l ++ m).flatMap Rl.cells))))) (fun _ i _ => 2 - (intOf i).toNat)
      case atStart => exact ⟨HB1, .inl ⟨rfl, HO⟩⟩
      case round =>
        obtain ⟨HBR, ⟨rfl, HOR⟩ | ⟨rfl, HOR⟩ | ⟨rfl, HOR⟩⟩ := hrel
        · have hbk := HG.out.below HBR.out
          have c0 : wr.cell? ⟨g, 0, none⟩ = some (.slice ao l.length ac) := (hbk.1 0).trans rfl
          have hgw : g < wr.heap.size := hbk.2.2
          obtain ⟨xo, xc, rfl⟩ := own_form HOR.out
          clear hbk
          go_wp2_with (at_builtin; refine halt_ ?_)
          unfold Halt_
          refine app_row Tryz.underlying23 rl_info' rfl (by decide) (by decide) rfl _ _ rfl w.heap.size rfl HOR.out rfl (HA.out.below HBR.out) (rls_one _) (by omega) HBR.out.size ?_
          intro a' cap' w3 hown' hgrow
          have HO3 := Lib.hid (show w3.ownsRow w.heap.size 28 2 (.slice a' l.length cap') l.length (l.flatMap Rl.cells) by simpa using hown')
          have HB3 := Lib.hid (below_own HBR.out HOR.out hgrow HBR.out.size (Nat.le_refl _))
          clear hown' hgrow
          go_wp2_with fail
          exact ⟨⟨HB3, .inr (.inl ⟨rfl, HO3⟩)⟩, by simp [intOf]⟩
        · have hbk := HG.out.below HBR.out
          have c1 : wr.cell? ⟨g, 1, none⟩ = some (.slice bo m.length bc) := (hbk.1 1).trans rfl
          have hgw : g < wr.heap.size := hbk.2.2
          obtain ⟨xo, xc, rfl⟩ := own_form HOR.out
          clear hbk
          go_wp2_with (at_builtin; refine halt_ ?_)
          unfold Halt_
          refine app_row Tryz.underlying23 rl_info' rfl (by decide) (by decide) rfl _ _ rfl w.heap.size rfl HOR.out rfl (HB.out.below HBR.out) (rls_one _) (by omega) HBR.out.size ?_
          intro a' cap' w3 hown' hgrow
          have HO3 := Lib.hid (show w3.ownsRow w.heap.size 28 2 (.slice a' (l.length + m.length) cap') (l.length + m.length) ((l ++ m).flatMap Rl.cells) by rw [rl_flat]; exact hown')
          have HB3 := Lib.hid (below_own HBR.out HOR.out hgrow HBR.out.size (Nat.le_refl _))
          clear hown' hgrow
          go_wp2_with fail
          exact ⟨⟨HB3, .inr (.inr ⟨rfl, HO3⟩)⟩, by simp [intOf]⟩
        · obtain ⟨xo, xc, rfl⟩ := own_form HOR.out
          have HS := Lib.hid (Sl.of_own HOR.out)
          go_wp2_with fail
          go_ret
          exact ⟨_, rfl, by rw [List.length_append]; exact HS.out, HBR.out⟩
end Go.Proofs.YtcmdhfccdkjenaaGreatDoor
namespace Go.Proofs.YtcmdhfccdkjenaaGreatDoor
open Go.RowKit Go.Shelf

/-- The first i cells of a row that DeleteFunc works on are those of its first j that stay; the rest is as it was. -/
structure HalfF (w : World) (b o : Nat) (l : List Rl) (np : Rl → Bool) (j i : Nat) : Prop where
  len : ((l.take j).filter np).length = i
  low : ∀ k (hk : k < ((l.take j).filter np).length), Two w b (o + k * 2) ((l.take j).filter np)[k]
  high : ∀ k (hk : k < l.length), j ≤ k → Two w b (o + k * 2) l[k]
  all : ∀ k, k < l.length → ∃ s0, Two w b (o + k * 2) s0
theorem HalfF.skip {w : World} {b o j i : Nat} {l : List Rl} {np : Rl → Bool} (h : HalfF w b o l np j i) (hj : j < l.length) (e : np l[j] = false) : HalfF w b o l np (j + 1) i := by
  have hd := filter_noR hj e
  exact ⟨by rw [hd]; exact h.len, fun k hk => by simp only [hd]; exact h.low k (by rw [← hd]; exact hk), fun k hk hjk => h.high k hk (by omega), h.all⟩
theorem HalfF.put {w : World} {b o j i : Nat} {l : List Rl} {np : Rl → Bool} (h : HalfF w b o l np j i) (hj : j < l.length) (hij : i ≤ j) (e : np l[j] = true) : HalfF (W2 w b (o + i * 2) l[j]) b o l np (j + 1) (i + 1) := by
  have hd := filter_yesR hj e
  refine ⟨by rw [hd, List.length_append, h.len]; rfl, fun k hk => ?_, fun k hk hjk => ?_, fun k hk => ?_⟩
  · rw [hd, List.length_append, h.len] at hk
    simp only [List.length_cons, List.length_nil] at hk
    by_cases hik : k < i
    · have e1 : ((l.take (j + 1)).filter np)[k]'(by rw [hd, List.length_append, h.len]; simp; omega) = ((l.take j).filter np)[k]'(by rw [h.len]; exact hik) := by
        simp only [hd]; rw [List.getElem_append_left]
      rw [e1]
      exact (h.low k (by rw [h.len]; exact hik)).drop1 (fun _ _ _ => w2_far _ _ _ _ _ (by omega))
    · obtain rfl : k = i := by omega
      have e1 : ((l.take (j + 1)).filter np)[k]'(by rw [hd, List.length_append, h.len]; simp) = l[j] := by
        simp only [hd]; rw [List.getElem_append_right (by rw [h.len]; exact Nat.le_refl _)]; simp [h.len]
      rw [e1]
      obtain ⟨s0, h0⟩ := h.all k (by omega)
      exact w2_new _ _ h0
  · exact (h.high k hk (by omega)).drop1 (fun _ _ _ => w2_far _ _ _ _ _ (by omega))
  · obtain ⟨s0, h0⟩ := h.all k hk
    by_cases hik : k = i
    · subst hik; exact ⟨_, w2_new _ _ h0⟩
    · exact ⟨s0, h0.drop1 (fun _ _ _ => w2_far _ _ _ _ _ (by omega))⟩
theorem HalfF.start {w : World} {b o k : Nat} {l : List Rl} {np : Rl → Bool} (hx : ∀ j u, (l.flatMap Rl.cells)[j]? = some u → w.cell? ⟨b, o + j, none⟩ = some u) (hk : k < l.length) (h0 : np l[k] = false) (h1 : ∀ j (hj : j < l.length), j < k → np l[j] = true) : HalfF w b o l np (k + 1) k := by
  have hd : (l.take (k + 1)).filter np = l.take k := by
    rw [filter_noR hk h0, List.filter_eq_self]
    intro x hx
    obtain ⟨j, hj, rfl⟩ := List.getElem_of_mem hx
    rw [List.getElem_take]
    rw [List.length_take] at hj
    exact h1 j (by omega) (by omega)
  refine ⟨by rw [hd, List.length_take]; omega, fun i hi => ?_, fun i hi _ => rl_cell (w := w) hx i hi, fun i hi => ⟨_, rl_cell (w := w) hx i hi⟩⟩
  have hi' : i < l.length := by rw [hd, List.length_take] at hi; omega
  have e : ((l.take (k + 1)).filter np)[i] = l[i] := by simp only [hd, List.getElem_take]
  rw [e]
  exact rl_cell (w := w) hx i hi'
theorem HalfF.done {w : World} {b o j i : Nat} {l : List Rl} {np : Rl → Bool} (h : HalfF w b o l np j i) (hj : j = l.length) : (l.filter np).length = i ∧ ∀ k (hk : k < (l.filter np).length), Two w b (o + k * 2) (l.filter np)[k] := by
  subst hj
  obtain ⟨h1, h2, _, _⟩ := h
  simp only [List.take_of_length_le (Nat.le_refl _)] at h1 h2
  exact ⟨h1, h2⟩
theorem HalfF.some {w : World} {b o j i : Nat} {l : List Rl} {np : Rl → Bool} (h : HalfF w b o l np j i) (hi : i ≤ l.length) : ∀ k, k < (l.length - i) * 2 → (w.cell? ⟨b, o + i * 2 + k, none⟩).isSome = true := by
  intro k hk
  obtain ⟨s0, h0⟩ := h.all (i + k / 2) (by omega)
  have := two_someR h0 (k % 2) (Nat.mod_lt _ (by decide))
  rwa [show o + (i + k / 2) * 2 + k % 2 = o + i * 2 + k by omega] at this
end Go.Proofs.YtcmdhfccdkjenaaGreatDoor
namespace Go.Proofs.YtcmdhfccdkjenaaGreatDoor
open Go.RowKit Go.Shelf

theorem own_mono {w : World} {B B' size n : Nat} {e : TypeId} {v : Value} {xs : List Value} (h : w.ownsRow B e size v n xs) (hb : B' ≤ B) : w.ownsRow B' e size v n xs := by
  refine ⟨h.1, ?_⟩
  rcases h.2 with h2 | ⟨g, cap, cur, h1, h2, h3⟩
  · exact .inl h2
  · exact .inr ⟨g, cap, cur, h1, Nat.le_trans hb h2, h3⟩
end Go.Proofs.YtcmdhfccdkjenaaGreatDoor
namespace Go.Proofs.YtcmdhfccdkjenaaGreatDoor
open Go.RowKit Go.Shelf

/-- A policy in a world, not too large, and all that it names. -/
structure PolX (w : World) (v0 v1 v2 v3 : Value) (l : List St) (g h : List Rl) (qs : List Qv) (F : Qv → List ByteArray) (PS NS : List ByteArray) : Prop where
  at_ : PolAt w v0 v1 v2 v3 l g h qs
  hl : l.length ≤ 100
  hg : g.length ≤ 100
  hh : h.length ≤ 100
  hq : qs.length ≤ 100
  hF : WhoF w qs F
  hs : allLe l 4294967
  hT : TB w
  eP : newB (allPrins l g h qs F) = PS
  eN : newB (allNames l g h qs) = NS
  hps : PS.length ≤ 60
  hns : NS.length ≤ 60
  rl : ∀ s ∈ l, rightS s = true
  rP : ∀ a ∈ PS, isP 65 90 (bl a) = true
  rN : ∀ n ∈ NS, isP 97 122 (bl n) = true
theorem PolX.below {w w' : World} {v0 v1 v2 v3 : Value} {l : List St} {g h : List Rl} {qs : List Qv} {F : Qv → List ByteArray} {PS NS : List ByteArray} (P : PolX w v0 v1 v2 v3 l g h qs F PS NS) (hb : Below w.heap.size w w') : PolX w' v0 v1 v2 v3 l g h qs F PS NS :=
  ⟨P.at_.below hb, P.hl, P.hg, P.hh, P.hq, P.hF.below hb, P.hs, P.hT.below hb, P.eP, P.eN, P.hps, P.hns, P.rl, P.rP, P.rN⟩
section
variable {w : World} {v0 v1 v2 v3 : Value} {l : List St} {g h : List Rl} {qs : List Qv} {F : Qv → List ByteArray} {PS NS : List ByteArray}
end
end Go.Proofs.YtcmdhfccdkjenaaGreatDoor
namespace Go.Proofs.YtcmdhfccdkjenaaGreatDoor
open Go.RowKit Go.Shelf

section
variable {w : World} {v0 v1 v2 v3 : Value} {l : List St} {g h : List Rl} {qs : List Qv} {F : Qv → List ByteArray} {PS NS : List ByteArray}
end
end Go.Proofs.YtcmdhfccdkjenaaGreatDoor
namespace Go.Proofs.YtcmdhfccdkjenaaGreatDoor
open Go.RowKit Go.Shelf

end Go.Proofs.YtcmdhfccdkjenaaGreatDoor
namespace Go.Proofs.YtcmdhfccdkjenaaGreatDoor
open Go.RowKit Go.Shelf

def minusS (l m : List St) : List St := ord (l.filter fun x => !hasS m x)
end Go.Proofs.YtcmdhfccdkjenaaGreatDoor
namespace Go.Proofs.YtcmdhfccdkjenaaGreatDoor
open Go.RowKit Go.Shelf

/-- How two policies differ. -/
structure Dl where
  more : List St
  gone : List St
  grow : List Rl
  ungrow : List Rl
  shrink : List Rl
  unshrink : List Rl
/-- Roles that aren't among others, in order; roles and others, in order. -/
def outR (a b : List Rl) : List Rl := (ordR a).filter fun x => !hasR b x
def withR (a b : List Rl) : List Rl := ordR (a ++ b)
def Dl.of (l1 : List St) (g1 h1 : List Rl) (l2 : List St) (g2 h2 : List Rl) : Dl := ⟨minusS l2 l1, minusS l1 l2, outR g2 g1, outR g1 g2, outR h2 h1, outR h1 h2⟩
def Dl.back (d : Dl) : Dl := ⟨d.gone, d.more, d.ungrow, d.grow, d.unshrink, d.shrink⟩
def Dl.grows (d : Dl) (g : List Rl) : List Rl := withR (outR g d.ungrow) d.grow
/-- The six slices of a difference in a world. -/
structure DlAt (w : World) (v0 v1 v2 v3 v4 v5 : Value) (d : Dl) : Prop where
  a0 : SlA w 9 v0 d.more.length (d.more.flatMap St.cells)
  a1 : SlA w 9 v1 d.gone.length (d.gone.flatMap St.cells)
  a2 : SlA w 2 v2 d.grow.length (d.grow.flatMap Rl.cells)
  a3 : SlA w 2 v3 d.ungrow.length (d.ungrow.flatMap Rl.cells)
  a4 : SlA w 2 v4 d.shrink.length (d.shrink.flatMap Rl.cells)
  a5 : SlA w 2 v5 d.unshrink.length (d.unshrink.flatMap Rl.cells)
theorem DlAt.below {w w' : World} {v0 v1 v2 v3 v4 v5 : Value} {d : Dl} (h : DlAt w v0 v1 v2 v3 v4 v5 d) (hb : Below w.heap.size w w') : DlAt w' v0 v1 v2 v3 v4 v5 d :=
  ⟨h.a0.below hb, h.a1.below hb, h.a2.below hb, h.a3.below hb, h.a4.below hb, h.a5.below hb⟩
theorem DlAt.back {w : World} {v0 v1 v2 v3 v4 v5 : Value} {d : Dl} (h : DlAt w v0 v1 v2 v3 v4 v5 d) : DlAt w v1 v0 v3 v2 v5 v4 d.back := ⟨h.a1, h.a0, h.a3, h.a2, h.a5, h.a4⟩
/-- A difference's value. -/
abbrev dv (v0 v1 v2 v3 v4 v5 : Value) : Value := .agg #[v0, v1, v2, v3, v4, v5]
/-- A value is a difference in a world. -/
def DlV (w : World) (v : Value) (d : Dl) : Prop := ∃ v0 v1 v2 v3 v4 v5, v = dv v0 v1 v2 v3 v4 v5 ∧ DlAt w v0 v1 v2 v3 v4 v5 d
theorem DlV.below {w w' : World} {v : Value} {d : Dl} (h : DlV w v d) (hb : Below w.heap.size w w') : DlV w' v d := by
  obtain ⟨v0, v1, v2, v3, v4, v5, rfl, h⟩ := h
  exact ⟨v0, v1, v2, v3, v4, v5, rfl, h.below hb⟩
/-- Each row of a difference is short, and so are its texts. -/
structure Dl.le (d : Dl) (n m : Nat) : Prop where
  n0 : d.more.length ≤ n
  n1 : d.gone.length ≤ n
  n2 : d.grow.length ≤ n
  n3 : d.ungrow.length ≤ n
  n4 : d.shrink.length ≤ n
  n5 : d.unshrink.length ≤ n
  t0 : allLe d.more m
  t1 : allLe d.gone m
  t2 : ∀ x ∈ d.grow, x.le m
  t3 : ∀ x ∈ d.ungrow, x.le m
  t4 : ∀ x ∈ d.shrink, x.le m
  t5 : ∀ x ∈ d.unshrink, x.le m
end Go.Proofs.YtcmdhfccdkjenaaGreatDoor
namespace Go.Proofs.YtcmdhfccdkjenaaGreatDoor
open Go.RowKit Go.Shelf

/-- A difference has no rows. -/
def Dl.none (d : Dl) : Bool := decide (d.more.length + d.gone.length + d.grow.length + d.ungrow.length + d.shrink.length + d.unshrink.length = 0)
end Go.Proofs.YtcmdhfccdkjenaaGreatDoor
namespace Go.Proofs.YtcmdhfccdkjenaaGreatDoor
open Go.RowKit Go.Shelf

theorem TwoAt.new (w : World) (A B : Array Value) (t u : TypeId) : TwoAt w A B ((w.alloc (.cells A t)).alloc (.cells B u)) :=
  ⟨(Blk.new w A t).alloc _, by have := Blk.new (w.alloc (.cells A t)) B u; simpa using this, ((Below.refl _ _).alloc (Nat.le_refl _) _).alloc (by simp) _⟩
end Go.Proofs.YtcmdhfccdkjenaaGreatDoor
namespace Go.Proofs.YtcmdhfccdkjenaaGreatDoor
open Go.RowKit Go.Shelf

end Go.Proofs.YtcmdhfccdkjenaaGreatDoor
namespace Go.Proofs.YtcmdhfccdkjenaaGreatDoor
open Go.RowKit Go.Shelf

section
variable {w : World} {v0 v1 v2 v3 : Value} {l : List St} {g h : List Rl} {qs : List Qv} {F : Qv → List ByteArray} {PS NS : List ByteArray}
end
def r12 : Rl := ⟨⟨#[65]⟩, ⟨#[114]⟩⟩
def s12 : St := ⟨1, r12, ⟨#[66]⟩, noR, noR, emp⟩
def P12 : List ByteArray := [⟨#[65]⟩, ⟨#[66]⟩]
def N12 : List ByteArray := [⟨#[114]⟩]
theorem ex12_right : rightS s12 = true := by kernel_rfl
section
variable {w : World} {b1 : Nat} {v1 : Value} {g : List Rl}
end
structure Ex12 (w : World) (wx : World) : Prop where
  r : Blk wx w.heap.size #[.string ⟨#[65]⟩, .string ⟨#[114]⟩]
  p : Blk wx (w.heap.size + 1 + 1 + 1) #[.slice (some ⟨w.heap.size + 1, 0, none⟩) 1 1, .slice (some ⟨w.heap.size + 1 + 1, 0, none⟩) 1 1, .slice none 0 0, .slice none 0 0]
  q : Blk wx (w.heap.size + 1 + 1 + 1 + 1) #[.slice (some ⟨w.heap.size + 1, 0, none⟩) 1 1, .slice none 0 0, .slice none 0 0, .slice none 0 0]
  low : Below w.heap.size w wx
theorem Ex12.later {w wx w' : World} (h : Ex12 w wx) (hb : Below wx.heap.size wx w') : Ex12 w w' := ⟨h.r.below hb, h.p.below hb, h.q.below hb, h.low.trans (hb.mono h.low.size)⟩
end Go.Proofs.YtcmdhfccdkjenaaGreatDoor
namespace Go.Proofs.YtcmdhfccdkjenaaGreatDoor
open Go.RowKit Go.Shelf

end Go.Proofs.YtcmdhfccdkjenaaGreatDoor
