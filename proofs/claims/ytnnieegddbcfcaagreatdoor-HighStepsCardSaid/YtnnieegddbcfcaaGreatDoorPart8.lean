/- slices.IndexFunc and slices.DeleteFunc at rows of statements. low.Minimal; crupperref11.Minimal. crupperref11.follows. Two rows of the call's own, side by side, while one of them grows. crupperref11.Eval. Plain laws: the bits of a word, and rows of numbers in order. Worlds that differ in named blocks alone; blocks whose cells a function tells. A region that draws its order and ends in a store into a cell that it loads: what is loaded is held up to the last operation, which waits for all others. package set: row, Has, Add, List; bits.TrailingZeros64. set.Family.List: the numbers of a row, rising. set.New. slices.Grow and Concat at rows of roles, the row being the call's own (rl_GrowO, rl_Concat of RlConc, turned); slices.Clone of texts. -/
import Derived.Test.YtnnieegddbcfcaaGreatDoorPart5
import Derived.Test.YtnnieegddbcfcaaGreatDoorPart3
import Derived.Test.YtnnieegddbcfcaaGreatDoorPart7
import Derived.Test.YtnnieegddbcfcaaGreatDoorPart6
import Derived.Lib.TrailingZeros
import Derived.Laws.Bits64b
import Derived.WalkSmall
import Derived.Test.YtnnieegddbcfcaaGreatDoorShelf
namespace Go.Proofs.YtnnieegddbcfcaaGreatDoor
open Go.RowKit Go.Shelf

theorem filter_yesS' {l : List St} {p : St → Bool} {k : Nat} (h : k < l.length) (hp : p l[k] = true) : (l.take (k + 1)).filter p = (l.take k).filter p ++ [l[k]] := by
  rw [List.take_succ_eq_append_getElem h, List.filter_append, List.filter_cons, if_pos hp]; rfl
theorem filter_noS' {l : List St} {p : St → Bool} {k : Nat} (h : k < l.length) (hp : p l[k] = false) : (l.take (k + 1)).filter p = (l.take k).filter p := by
  rw [List.take_succ_eq_append_getElem h, List.filter_append, List.filter_cons, if_neg (by rw [hp]; exact Bool.false_ne_true)]; simp
/-- The first i cells of a row that DeleteFunc works on are those of its first j that stay; the rest is as it was. -/
structure HalfD (w : World) (b o : Nat) (l : List St) (np : St → Bool) (j i : Nat) : Prop where
  len : ((l.take j).filter np).length = i
  low : ∀ k (hk : k < ((l.take j).filter np).length), Nine w b (o + k * 9) ((l.take j).filter np)[k]
  high : ∀ k (hk : k < l.length), j ≤ k → Nine w b (o + k * 9) l[k]
  all : ∀ k, k < l.length → ∃ s0, Nine w b (o + k * 9) s0
theorem HalfD.move {w w' : World} {b o j i : Nat} {l : List St} {np : St → Bool} (h : HalfD w b o l np j i) (hw : ∀ i, w'.cell? ⟨b, i, none⟩ = w.cell? ⟨b, i, none⟩) : HalfD w' b o l np j i :=
  ⟨h.len, fun k hk => (h.low k hk).drop1 (fun _ _ _ => hw _), fun k hk hj => (h.high k hk hj).drop1 (fun _ _ _ => hw _), fun k hk => (h.all k hk).elim fun s0 h0 => ⟨s0, h0.drop1 (fun _ _ _ => hw _)⟩⟩
theorem HalfD.skip {w : World} {b o j i : Nat} {l : List St} {np : St → Bool} (h : HalfD w b o l np j i) (hj : j < l.length) (e : np l[j] = false) : HalfD w b o l np (j + 1) i := by
  have hd := filter_noS' hj e
  exact ⟨by rw [hd]; exact h.len, fun k hk => by simp only [hd]; exact h.low k (by rw [← hd]; exact hk), fun k hk hjk => h.high k hk (by omega), h.all⟩
theorem HalfD.put {w : World} {b o j i : Nat} {l : List St} {np : St → Bool} (h : HalfD w b o l np j i) (hj : j < l.length) (hij : i ≤ j) (e : np l[j] = true) : HalfD (W9 w b (o + i * 9) l[j]) b o l np (j + 1) (i + 1) := by
  have hd := filter_yesS' hj e
  refine ⟨by rw [hd, List.length_append, h.len]; rfl, fun k hk => ?_, fun k hk hjk => ?_, fun k hk => ?_⟩
  · rw [hd, List.length_append, h.len] at hk
    simp only [List.length_cons, List.length_nil] at hk
    by_cases hik : k < i
    · have e1 : ((l.take (j + 1)).filter np)[k]'(by rw [hd, List.length_append, h.len]; simp; omega) = ((l.take j).filter np)[k]'(by rw [h.len]; exact hik) := by
        simp only [hd]; rw [List.getElem_append_left]
      rw [e1]
      exact (h.low k (by rw [h.len]; exact hik)).drop1 (fun _ _ _ => w9_far _ _ _ _ _ (by omega))
    · obtain rfl : k = i := by omega
      have e1 : ((l.take (j + 1)).filter np)[k]'(by rw [hd, List.length_append, h.len]; simp) = l[j] := by
        simp only [hd]; rw [List.getElem_append_right (by rw [h.len]; exact Nat.le_refl _)]; simp [h.len]
      rw [e1]
      obtain ⟨s0, h0⟩ := h.all k (by omega)
      exact w9_new _ _ h0
  · exact (h.high k hk (by omega)).drop1 (fun _ _ _ => w9_far _ _ _ _ _ (by omega))
  · obtain ⟨s0, h0⟩ := h.all k hk
    by_cases hik : k = i
    · subst hik; exact ⟨_, w9_new _ _ h0⟩
    · exact ⟨s0, h0.drop1 (fun _ _ _ => w9_far _ _ _ _ _ (by omega))⟩
theorem HalfD.start {w : World} {b o k : Nat} {l : List St} {np : St → Bool} (hx : ∀ j u, (l.flatMap St.cells)[j]? = some u → w.cell? ⟨b, o + j, none⟩ = some u) (hk : k < l.length) (h0 : np l[k] = false) (h1 : ∀ j (hj : j < l.length), j < k → np l[j] = true) : HalfD w b o l np (k + 1) k := by
  have hd : (l.take (k + 1)).filter np = l.take k := by
    rw [filter_noS' hk h0, List.filter_eq_self]
    intro x hx
    obtain ⟨j, hj, rfl⟩ := List.getElem_of_mem hx
    rw [List.getElem_take]
    rw [List.length_take] at hj
    exact h1 j (by omega) (by omega)
  refine ⟨by rw [hd, List.length_take]; omega, fun i hi => ?_, fun i hi _ => st_cell (w := w) hx i hi, fun i hi => ⟨_, st_cell (w := w) hx i hi⟩⟩
  have hi' : i < l.length := by rw [hd, List.length_take] at hi; omega
  have e : ((l.take (k + 1)).filter np)[i] = l[i] := by simp only [hd, List.getElem_take]
  rw [e]
  exact st_cell (w := w) hx i hi'
theorem HalfD.done {w : World} {b o j i : Nat} {l : List St} {np : St → Bool} (h : HalfD w b o l np j i) (hj : j = l.length) : (l.filter np).length = i ∧ ∀ k (hk : k < (l.filter np).length), Nine w b (o + k * 9) (l.filter np)[k] := by
  subst hj
  obtain ⟨h1, h2, _, _⟩ := h
  simp only [List.take_of_length_le (Nat.le_refl _)] at h1 h2
  exact ⟨h1, h2⟩
theorem HalfD.some {w : World} {b o j i : Nat} {l : List St} {np : St → Bool} (h : HalfD w b o l np j i) (hi : i ≤ l.length) : ∀ k, k < (l.length - i) * 9 → (w.cell? ⟨b, o + i * 9 + k, none⟩).isSome = true := by
  intro k hk
  obtain ⟨s0, h0⟩ := h.all (i + k / 9) (by omega)
  have := nine_some h0 (k % 9) (Nat.mod_lt _ (by decide))
  rwa [show o + (i + k / 9) * 9 + k % 9 = o + i * 9 + k by omega] at this
end Go.Proofs.YtnnieegddbcfcaaGreatDoor
namespace Go.Proofs.YtnnieegddbcfcaaGreatDoor
open Go.RowKit Go.Shelf

theorem below_of_grownS {w a b : World} {g : Nat} (h : Below w.heap.size w a) (hg : w.heap.size ≤ g) (hr : a.grownBy b (some g)) : Below w.heap.size w b :=
  h.grown hr h.size (by rintro k ⟨⟩; exact hg)
theorem st1s (k : Int) (a b c d e f g h : ByteArray) : ∀ u ∈ [Value.int .i64 k, .string a, .string b, .string c, .string d, .string e, .string f, .string g, .string h], u.oneCell' = true := by
  intro u hu; simp at hu; rcases hu with rfl | rfl | rfl | rfl | rfl | rfl | rfl | rfl | rfl <;> rfl
theorem push_at {α : Type} {e : TypeId} {size : Nat} (enc : α → List Value) {w wr w3 : World} {A : Array Value} {vo : Value} {rs : List α} {x : α} {o : Obj} {a' : Option Addr} {cap' : Nat} (ht : OneAt w A wr) (hown : wr.ownsRow (w.heap.size + 1) e size vo rs.length (rs.flatMap enc))
    (h : w3.ownsRow (w.heap.size + 1) e size (.slice a' (rs.length + 1) cap') (rs.length + 1) (rs.flatMap enc ++ enc x)) (hg : (wr.alloc o).grownBy w3 vo.ownBlock) :
    w3.ownsRow (w.heap.size + 1) e size (.slice a' (rs.length + 1) cap') (rs ++ [x]).length ((rs ++ [x]).flatMap enc) ∧ OneAt w A w3 := by
  refine ⟨by rw [List.length_append, List.flatMap_append]; simpa using h, (ht.a.alloc o).grown hg (own_gt_ne hown (Nat.lt_succ_self _)), ?_⟩
  exact below_own (ht.low.alloc ht.low.size o) (hown.alloc _) hg (by have := ht.low.size; simp; omega) (Nat.le_succ _)
end Go.Proofs.YtnnieegddbcfcaaGreatDoor
namespace Go.Proofs.YtnnieegddbcfcaaGreatDoor
open Go.RowKit Go.Shelf

theorem flatMap_le {α β : Type} (f : α → List β) (c : Nat) (h : ∀ x, (f x).length ≤ c) : ∀ l : List α, (l.flatMap f).length ≤ l.length * c
  | [] => by simp
  | a :: l => by
    have h1 := h a
    have h2 := flatMap_le f c h l
    rw [List.flatMap_cons, List.length_append, List.length_cons, Nat.succ_mul]
    omega
/-- A pair in a block of its own. -/
def XAt (w : World) (b : Nat) (y1 y2 y3 : ByteArray) : Prop := w.heap[b]? = some (.cells #[.string y1, .string y2, .string y3] 68 (0, 0))
theorem XAt.blk {w : World} {b : Nat} {y1 y2 y3 : ByteArray} (h : XAt w b y1 y2 y3) : Blk w b #[.string y1, .string y2, .string y3] := blk_of h
theorem XAt.lt {w : World} {b : Nat} {y1 y2 y3 : ByteArray} (h : XAt w b y1 y2 y3) : b < w.heap.size := (Array.getElem?_eq_some_iff.1 h).1
theorem XAt.below {w w' : World} {b : Nat} {y1 y2 y3 : ByteArray} (h : XAt w b y1 y2 y3) (hb : Below w.heap.size w w') : XAt w' b y1 y2 y3 := (hb.block b h.lt).trans h
theorem XAt.alloc {w : World} {b : Nat} {y1 y2 y3 : ByteArray} (h : XAt w b y1 y2 y3) (o : Obj) : XAt (w.alloc o) b y1 y2 y3 := h.below ((Below.refl _ _).alloc (Nat.le_refl _) o)
theorem XAt.grown {w w' : World} {b base n : Nat} {y1 y2 y3 : ByteArray} {v : Value} {xs : List Value} (h : XAt w b y1 y2 y3) (ho : w.ownsRow base 9 1 v n xs) (hg : w.grownBy w' v.ownBlock) : XAt w' b y1 y2 y3 :=
  (hg.block b h.lt (own_tag ho h (by decide))).trans h
theorem strs_snoc (ys : List ByteArray) (x : ByteArray) : strs (ys ++ [x]) = strs ys ++ [.string x] := by unfold strs; rw [List.map_append]; rfl
end Go.Proofs.YtnnieegddbcfcaaGreatDoor
namespace Go.Proofs.YtnnieegddbcfcaaGreatDoor
open Go.RowKit Go.Shelf

/-- append of a row onto a row of the call's own, within a region that draws its order; the row's block is the one that it was, or new. -/
theorem step_rowE {P : Program} {w : World} {ops : Array Oper} {o : Oper} {a : Act} {K : Act → World → Prop} {Q : Exit → Act → World → Prop} {E : Prop} (hgd : o.guard = none) (s x : Operand) (t : TypeId)
    (ho : o.op = .call { callee := .builtin .append, args := #[s, x], argTypes := #[t, t] })
    (base : Nat) (e : TypeId) (i : TypeInfo) (z : Value) (size bytes : Nat) (ht : P.underlying t = some (.slice e)) (hi : P.info? e = some i) (hz : i.zero = some z)
    (hsize : i.size = size) (hby : i.bytes = bytes) (hb1000 : bytes ≤ 1000) (hzs : z.cells.size = size) (hsz : 0 < size)
    (v : Value) (n : Nat) (xs : List Value) (hs : a.eval s = v) (hown : w.ownsRow base e size v n xs)
    (va : Value) (m : Nat) (ys : List Value) (hx : a.eval x = va) (ha : SlA w size va m ys) (h1 : ∀ u ∈ ys, u.oneCell' = true)
    (hnm : n + m ≤ 100000000000) (hbase : base ≤ w.heap.size)
    (h : ∀ a' cap' w', w'.ownsRow base e size (.slice a' (n + m) cap') (n + m) (xs ++ ys) → w.grownBy w' v.ownBlock → (∀ k, k < w.heap.size → some k ≠ v.ownBlock → some k ≠ (Value.slice a' (n + m) cap').ownBlock) → K (a.put o.dst (.slice a' (n + m) cap')) w') :
    if Region.wanted o (yielded ops a.tmps) = true then Oper.wp P o a w K Q else E := by
  by_cases h0 : 0 < m
  · obtain ⟨b, off, c, rfl, hc, hm, hb, hcell⟩ := ha.pos h0
    have hl : ys.length = m * size := by
      rcases ha with ha | ⟨_, rfl, rfl⟩
      · exact ha.len
      · simp
    have hbb : (n + m) * bytes ≤ 140737488355328 := Nat.le_trans (Nat.mul_le_mul (Nat.le_refl _) hb1000) (by omega)
    refine step_append_lies w hgd s x t ho base e i z size bytes ht hi hz hsize hby hzs hsz v n xs hs hown ⟨b, off, none⟩ m c ys hx hl (fun j u hu => by rw [addr_add]; exact hcell j u hu) h1 h0 (by simp only [maxLen]; omega) hbb hbase _ rfl
      (fun g cap w' h1 h2 h3 _ => h _ cap w' h1 h2 (fun k hk hne he => ?_))
    injection he with he
    dsimp only at he
    subst he
    rcases h3 with h3 | h3
    · exact hne h3.symm
    · omega
  · obtain rfl : m = 0 := by omega
    have hy : ys = [] := by
      rcases ha with ha | ⟨_, _, rfl⟩
      · have := ha.len; exact List.eq_nil_of_length_eq_zero (by omega)
      · rfl
    subst hy
    obtain ⟨ax, cx, rfl⟩ := ha.form
    obtain ⟨ao, cap, rfl, hnc⟩ := own_form2 hown
    refine step_zero w hgd s x t ho e i ht hi ao n cap hnc hs ax cx hx ?_
    refine h ao cap w (by rw [List.append_nil]; exact hown) ⟨rfl, rfl, rfl, Nat.le_refl _, fun _ _ _ => rfl⟩ (fun k _ hne he => hne (by rw [he]; cases ao <;> rfl))
/-- Two rows of the call's own in blocks of their own. -/
structure RowsTwo (w0 : World) (e : TypeId) (size : Nat) (v1 : Value) (n1 : Nat) (x1 : List Value) (v2 : Value) (n2 : Nat) (x2 : List Value) (w : World) : Prop where
  low : Below w0.heap.size w0 w
  o1 : w.ownsRow w0.heap.size e size v1 n1 x1
  o2 : w.ownsRow w0.heap.size e size v2 n2 x2
  ne : ∀ k, some k = v1.ownBlock → some k ≠ v2.ownBlock
theorem own_grown {w w' : World} {base size n : Nat} {e : TypeId} {v : Value} {xs : List Value} {r : Option Nat} (h : w.ownsRow base e size v n xs) (hg : w.grownBy w' r) (hne : ∀ k, some k = v.ownBlock → some k ≠ r) : w'.ownsRow base e size v n xs := by
  obtain ⟨h1, h2⟩ := h
  refine ⟨h1, ?_⟩
  rcases h2 with h2 | ⟨g, cap, cur, rfl, hb, hh, h3⟩
  · exact .inl h2
  · exact .inr ⟨g, cap, cur, rfl, hb, (hg.block g (Array.getElem?_eq_some_iff.1 hh).1 (hne g rfl)).trans hh, h3⟩
/-- A second row begins. -/
theorem RowsTwo.new {w0 w : World} {e : TypeId} {size n1 : Nat} {v1 : Value} {x1 : List Value} (hb : Below w0.heap.size w0 w) (h : w.ownsRow w0.heap.size e size v1 n1 x1) :
    RowsTwo w0 e size v1 n1 x1 (.slice (some ⟨w.heap.size, 0, none⟩) 0 0) 0 [] (w.alloc (.cells #[] e)) :=
  ⟨hb.alloc hb.size _, h.alloc _, World.ownsRow_made w #[] 0 hb.size (Nat.zero_le _) (by simp), fun k hk he => by
    have := (h.lt k hk.symm).2
    injection he with he
    dsimp only at he
    omega⟩
end Go.Proofs.YtnnieegddbcfcaaGreatDoor
namespace Go.Proofs.YtnnieegddbcfcaaGreatDoor
open Go.RowKit Go.Shelf

/-- A block of a type. -/
def CAt (w : World) (b : Nat) (cs : Array Value) (t : TypeId) : Prop := w.heap[b]? = some (.cells cs t (0, 0))
theorem CAt.blk {w : World} {b : Nat} {cs : Array Value} {t : TypeId} (h : CAt w b cs t) : Blk w b cs := blk_of h
theorem CAt.lt {w : World} {b : Nat} {cs : Array Value} {t : TypeId} (h : CAt w b cs t) : b < w.heap.size := (Array.getElem?_eq_some_iff.1 h).1
theorem CAt.below {w w' : World} {b : Nat} {cs : Array Value} {t : TypeId} (h : CAt w b cs t) (hb : Below w.heap.size w w') : CAt w' b cs t := (hb.block b h.lt).trans h
theorem CAt.alloc {w : World} {b : Nat} {cs : Array Value} {t : TypeId} (h : CAt w b cs t) (o : Obj) : CAt (w.alloc o) b cs t := h.below ((Below.refl _ _).alloc (Nat.le_refl _) o)
theorem CAt.grown {w w' : World} {b base size n : Nat} {cs : Array Value} {t e : TypeId} {v : Value} {xs : List Value} (h : CAt w b cs t) (ho : w.ownsRow base e size v n xs) (hg : w.grownBy w' v.ownBlock) (ht : t ≠ e) : CAt w' b cs t :=
  (hg.block b h.lt (own_tag ho h ht)).trans h
/-- A row of the call's own of one type, while one of another type grows. -/
theorem own_far {w w' : World} {b1 b2 s1 s2 n1 n2 : Nat} {e1 e2 : TypeId} {v1 v2 : Value} {x1 x2 : List Value} (h1 : w.ownsRow b1 e1 s1 v1 n1 x1) (h2 : w.ownsRow b2 e2 s2 v2 n2 x2) (hg : w.grownBy w' v2.ownBlock) (ht : e1 ≠ e2) : w'.ownsRow b1 e1 s1 v1 n1 x1 := by
  refine own_grown h1 hg (fun k hk => ?_)
  rcases h1.2 with ⟨rfl, _⟩ | ⟨g, cap, cur, rfl, _, hh, _⟩
  · cases hk
  · cases hk
    exact own_tag h2 hh ht
/-- What a round has found. -/
structure Found (ps qs : List Pr) (b : Bool) : Prop where
  no : b = false → qs = ps
  yes : b = true → ps.length < qs.length
theorem Found.le {ps qs : List Pr} {b : Bool} (h : Found ps qs b) : ps.length ≤ qs.length := by
  cases b
  · rw [h.no rfl]; exact Nat.le_refl _
  · exact Nat.le_of_lt (h.yes rfl)
end Go.Proofs.YtnnieegddbcfcaaGreatDoor
namespace Go.Proofs.YtnnieegddbcfcaaGreatDoor
open Go.RowKit Go.Shelf

theorem asc_uniqueN : ∀ (l m : List Nat), l.Pairwise (· < ·) → m.Pairwise (· < ·) → (∀ x, x ∈ l ↔ x ∈ m) → l = m
  | [], [], _, _, _ => rfl
  | [], b :: m, _, _, h => by have := (h b).2 (List.mem_cons_self ..); cases this
  | a :: l, [], _, _, h => by have := (h a).1 (List.mem_cons_self ..); cases this
  | a :: l, b :: m, hl, hm, h => by
    rw [List.pairwise_cons] at hl hm
    have e : a = b := by
      have h1 := (h a).1 (List.mem_cons_self ..)
      have h2 := (h b).2 (List.mem_cons_self ..)
      rcases List.mem_cons.1 h1 with h1 | h1
      · exact h1
      · rcases List.mem_cons.1 h2 with h2 | h2
        · exact h2.symm
        · have := hm.1 a h1; have := hl.1 b h2; omega
    subst e
    rw [asc_uniqueN l m hl.2 hm.2 (fun x => by
      have hx := h x
      simp only [List.mem_cons] at hx
      constructor
      · intro hxl
        rcases hx.1 (.inr hxl) with rfl | h'
        · have := hl.1 x hxl; omega
        · exact h'
      · intro hxm
        rcases hx.2 (.inr hxm) with rfl | h'
        · have := hm.1 x hxm; omega
        · exact h')]
/-- The bits of a word, rising. -/
def bitsOf (m : Nat) : List Nat := (List.range 64).filter (fun c => m.testBit c)
theorem bitsOf_asc (m : Nat) : (bitsOf m).Pairwise (· < ·) := List.Pairwise.filter _ List.pairwise_lt_range
theorem bitsOf_mem {m c : Nat} : c ∈ bitsOf m ↔ c < 64 ∧ m.testBit c = true := by unfold bitsOf; rw [List.mem_filter, List.mem_range]
theorem low_bit : ∀ (f m : Nat), 0 < m → m < 2 ^ f → m.testBit (Lib.ctzFrom f m) = true ∧ (∀ i, i < Lib.ctzFrom f m → m.testBit i = false) ∧ Lib.ctzFrom f m < f ∧ ∀ i, (m &&& (m - 1)).testBit i = (m.testBit i && decide (i ≠ Lib.ctzFrom f m))
  | 0, m, h0, h => by simp at h; omega
  | f + 1, m, h0, h => by
    unfold Lib.ctzFrom
    by_cases h1 : m % 2 = 1
    · rw [if_pos h1]
      have e0 : m.testBit 0 = true := by rw [Nat.testBit_zero]; exact decide_eq_true h1
      refine ⟨e0, fun i hi => absurd hi (by omega), by omega, fun i => ?_⟩
      rw [Nat.testBit_and]
      cases i with
      | zero =>
        have : (m - 1).testBit 0 = false := by rw [Nat.testBit_zero]; exact decide_eq_false (by omega)
        rw [this]; simp
      | succ i =>
        rw [Nat.testBit_succ, Nat.testBit_succ, show (m - 1) / 2 = m / 2 by omega]; simp
    · rw [if_neg h1]
      have hx : m / 2 < 2 ^ f := by rw [Nat.pow_succ] at h; omega
      obtain ⟨a1, a2, a3, a4⟩ := low_bit f (m / 2) (by omega) hx
      refine ⟨?_, ?_, by omega, fun i => ?_⟩
      · rw [Nat.add_comm, Nat.testBit_succ]; exact a1
      · intro i hi
        cases i with
        | zero => rw [Nat.testBit_zero]; exact decide_eq_false h1
        | succ i => rw [Nat.testBit_succ]; exact a2 i (by omega)
      · cases i with
        | zero =>
          rw [Nat.testBit_and, show m.testBit 0 = false by rw [Nat.testBit_zero]; exact decide_eq_false h1]; simp
        | succ i =>
          have := a4 i
          rw [Nat.testBit_and] at this ⊢
          rw [Nat.testBit_succ, Nat.testBit_succ, show (m - 1) / 2 = m / 2 - 1 by omega, this]
          congr 1
          simp only [ne_eq, decide_not]
          congr 1
          rw [decide_eq_decide]
          omega
theorem bits_step {m : Nat} (h0 : 0 < m) (h : m < 2 ^ 64) : bitsOf m = Lib.ctz 64 m :: bitsOf (m &&& (m - 1)) ∧ Lib.ctz 64 m < 64 ∧ (m &&& (m - 1)) < 2 ^ 64 := by
  obtain ⟨a1, a2, a3, a4⟩ := low_bit 64 m h0 h
  have e : Lib.ctz 64 m = Lib.ctzFrom 64 m := by unfold Lib.ctz; rw [if_neg (by omega)]
  rw [e]
  refine ⟨asc_uniqueN _ _ (bitsOf_asc _) ?_ ?_, a3, Nat.lt_of_le_of_lt Nat.and_le_left h⟩
  · rw [List.pairwise_cons]
    refine ⟨fun c hc => ?_, bitsOf_asc _⟩
    obtain ⟨_, hc⟩ := bitsOf_mem.1 hc
    rw [a4] at hc
    simp only [ne_eq, Bool.and_eq_true, decide_eq_true_eq] at hc
    have := a2 c
    have := hc.2
    by_cases hlt : c < Lib.ctzFrom 64 m
    · rw [a2 c hlt] at hc; cases hc.1
    · omega
  · intro c
    rw [List.mem_cons, bitsOf_mem, bitsOf_mem, a4]
    simp only [ne_eq, Bool.and_eq_true, decide_eq_true_eq]
    constructor
    · rintro ⟨h1, h2⟩
      by_cases e : c = Lib.ctzFrom 64 m
      · exact .inl e
      · exact .inr ⟨h1, h2, e⟩
    · rintro (rfl | ⟨h1, h2, _⟩)
      · exact ⟨a3, a1⟩
      · exact ⟨h1, h2⟩
theorem bitsOf_zero : bitsOf 0 = [] := by unfold bitsOf; simp
/-- A word that tells which of a row's numbers are in a set. -/
def wrdOf (fs : List (Nat × Nat)) (i m : Nat) : Prop := m < 2 ^ 64 ∧ ∀ c, m.testBit c = decide ((i, c) ∈ fs)
theorem wrdOf.nil (i : Nat) : wrdOf [] i 0 := ⟨by decide, fun c => by simp⟩
theorem wrdOf.other {fs : List (Nat × Nat)} {i m r c : Nat} (h : wrdOf fs i m) (hr : r ≠ i) : wrdOf (fs ++ [(r, c)]) i m := by
  refine ⟨h.1, fun d => ?_⟩
  rw [h.2, decide_eq_decide, List.mem_append, List.mem_singleton]
  constructor
  · exact .inl
  · rintro (h | h)
    · exact h
    · simp only [Prod.mk.injEq] at h; exact absurd h.1.symm hr
theorem wrdOf.put {fs : List (Nat × Nat)} {i m c : Nat} (h : wrdOf fs i m) (hc : c < 64) : wrdOf (fs ++ [(i, c)]) i (m ||| 2 ^ c) := by
  refine ⟨Nat.or_lt_two_pow h.1 (Nat.pow_lt_pow_right (by decide) hc), fun d => ?_⟩
  rw [Nat.testBit_or, h.2, Nat.testBit_two_pow]
  by_cases e : c = d
  · subst e; simp
  · have : (i, d) ≠ (i, c) := fun h => e (by simp only [Prod.mk.injEq, true_and] at h; exact h.symm)
    simp [e, this]
/-- The numbers that a row has, rising. -/
def colsOf (fs : List (Nat × Nat)) (i : Nat) : List Nat := (List.range 64).filter (fun c => decide ((i, c) ∈ fs))
theorem bits_cols {fs : List (Nat × Nat)} {i m : Nat} (h : wrdOf fs i m) : bitsOf m = colsOf fs i := by
  unfold bitsOf colsOf
  exact List.filter_congr (fun c _ => h.2 c)
theorem colsOf_mem {fs : List (Nat × Nat)} {i c : Nat} : c ∈ colsOf fs i ↔ c < 64 ∧ (i, c) ∈ fs := by unfold colsOf; rw [List.mem_filter, List.mem_range, decide_eq_true_iff]
theorem colsOf_asc (fs : List (Nat × Nat)) (i : Nat) : (colsOf fs i).Pairwise (· < ·) := List.Pairwise.filter _ List.pairwise_lt_range
theorem colsOf_len (fs : List (Nat × Nat)) (i : Nat) : (colsOf fs i).length ≤ 64 := by
  have := List.length_filter_le (fun c => decide ((i, c) ∈ fs)) (List.range 64)
  unfold colsOf
  simpa using this
/-- What the program's words come to. -/
theorem word_has {fs : List (Nat × Nat)} {i m c : Nat} (h : wrdOf fs i m) : (bits .and .u64 ((m : Int) / 2 ^ c) 1 == 1) = decide ((i, c) ∈ fs) := by
  have e : (m : Int) / 2 ^ c = ((m / 2 ^ c : Nat) : Int) := by rw [Int.natCast_ediv, Int.natCast_pow]; rfl
  have hb : m / 2 ^ c < 2 ^ 64 := Nat.lt_of_le_of_lt (Nat.div_le_self _ _) h.1
  rw [e, ← h.2 c, Nat.testBit_eq_decide_div_mod_eq]
  generalize m / 2 ^ c = q at *
  rw [and_one_u64 _ (by omega) (by omega)]
  by_cases h1 : q % 2 = 1
  · rw [decide_eq_true h1, beq_iff_eq]; omega
  · rw [decide_eq_false h1, beq_eq_false_iff_ne]; omega
end Go.Proofs.YtnnieegddbcfcaaGreatDoor
namespace Go.Proofs.YtnnieegddbcfcaaGreatDoor
open Go.RowKit Go.Shelf

/-- All blocks but those of X are as they were. -/
structure Kp (X : Nat → Prop) (w w' : World) : Prop where
  os : w'.os = w.os
  tape : w'.tape = w.tape
  output : w'.output = w.output
  size : w.heap.size ≤ w'.heap.size
  block : ∀ k, k < w.heap.size → ¬ X k → w'.heap[k]? = w.heap[k]?
section
variable {X Y : Nat → Prop} {w w1 w2 : World}
theorem Kp.refl (X : Nat → Prop) (w : World) : Kp X w w := ⟨rfl, rfl, rfl, Nat.le_refl _, fun _ _ _ => rfl⟩
theorem Kp.of_below (h : Below w.heap.size w w1) : Kp X w w1 := ⟨h.os, h.tape, h.output, h.size, fun k hk _ => h.block k hk⟩
theorem Kp.of_grown {r : Option Nat} (h : w.grownBy w1 r) (hr : ∀ b, some b = r → X b) : Kp X w w1 := ⟨h.os, h.tape, h.output, h.size, fun k hk hx => h.block k hk (fun e => hx (hr k e))⟩
theorem Kp.trans (h : Kp X w w1) (g : Kp Y w1 w2) (hxy : ∀ b, b < w.heap.size → Y b → X b) : Kp X w w2 :=
  ⟨g.os.trans h.os, g.tape.trans h.tape, g.output.trans h.output, Nat.le_trans h.size g.size, fun k hk hx => (g.block k (Nat.lt_of_lt_of_le hk h.size) (fun hy => hx (hxy k hk hy))).trans (h.block k hk hx)⟩
theorem Kp.below {n : Nat} (h : Kp X w w1) (hn : n ≤ w.heap.size) (hx : ∀ b, b < n → ¬ X b) : Below n w w1 := ⟨h.os, h.tape, h.output, h.size, fun k hk => h.block k (Nat.lt_of_lt_of_le hk hn) (hx k hk)⟩
theorem Kp.blk {b : Nat} {cs : Array Value} (h : Kp X w w1) (hb : Blk w b cs) (hx : ¬ X b) : Blk w1 b cs := by
  have e := h.block b hb.2.2 hx
  exact ⟨fun o => (World.cell?_of_block (a := ⟨b, o, none⟩) e).trans (hb.1 o), fun o => (World.frozen?_of_block (a := ⟨b, o, none⟩) e).trans (hb.2.1 o), Nat.lt_of_lt_of_le hb.2.2 h.size⟩
theorem Kp.own {base size n : Nat} {e : TypeId} {v : Value} {xs : List Value} (h : Kp X w w1) (ho : w.ownsRow base e size v n xs) (hx : ∀ g, v.ownBlock = some g → ¬ X g) : w1.ownsRow base e size v n xs := by
  refine ⟨ho.1, ?_⟩
  rcases ho.2 with h2 | ⟨g, cap, cur, rfl, hb, hg, hr⟩
  · exact .inl h2
  · exact .inr ⟨g, cap, cur, rfl, hb, (h.block g (Array.getElem?_eq_some_iff.1 hg).1 (hx g rfl)).trans hg, hr⟩
theorem Kp.set {b o : Nat} {v : Value} (hx : X b) : Kp X w (w.setCell ⟨b, o, none⟩ v) :=
  ⟨rfl, rfl, rfl, by simp [World.setCell], fun k _ hk => Below.heap_setCell _ _ _ _ (fun e => hk (by have e' : k = b := e; rw [e']; exact hx))⟩
theorem Kp.sub (h : Kp X w w1) (hxy : ∀ b, b < w.heap.size → X b → Y b) : Kp Y w w1 := ⟨h.os, h.tape, h.output, h.size, fun k hk hy => h.block k hk (fun hx => hy (hxy k hk hx))⟩
theorem Kp.drew (h : Kp X w w1) : Kp X w w1.drew := ⟨h.os, h.tape, h.output, h.size, h.block⟩
end
/-- A block of n cells that a function tells. -/
def arrOf (n : Nat) (f : Nat → Value) : Array Value := ((List.range n).map f).toArray
theorem arrOf_get (n : Nat) (f : Nat → Value) (i : Nat) : (arrOf n f)[i]? = if i < n then some (f i) else none := by
  unfold arrOf
  rw [List.getElem?_toArray, List.getElem?_map]
  by_cases h : i < n
  · rw [if_pos h, List.getElem?_eq_getElem (by simpa using h)]; simp
  · rw [if_neg h, List.getElem?_eq_none (by simpa using h)]; rfl
theorem arrOf_size (n : Nat) (f : Nat → Value) : (arrOf n f).size = n := by unfold arrOf; simp
theorem arrOf_set (n : Nat) (f : Nat → Value) (i : Nat) (v : Value) (hi : i < n) : (arrOf n f).setIfInBounds i v = arrOf n (fun j => if j = i then v else f j) := by
  apply Array.ext_getElem?
  intro j
  rw [Array.getElem?_setIfInBounds, arrOf_get, arrOf_get, arrOf_size]
  by_cases h : i = j
  · subst h; rw [if_pos rfl, if_pos hi, if_pos hi, if_pos rfl]
  · rw [if_neg h]
    by_cases hj : j < n
    · rw [if_pos hj, if_pos hj, if_neg (fun e => h e.symm)]
    · rw [if_neg hj, if_neg hj]
theorem arrOf_congr {n : Nat} {f g : Nat → Value} (h : ∀ i, i < n → f i = g i) : arrOf n f = arrOf n g := by
  apply Array.ext_getElem?
  intro j
  rw [arrOf_get, arrOf_get]
  by_cases hj : j < n
  · rw [if_pos hj, if_pos hj, h j hj]
  · rw [if_neg hj, if_neg hj]

/-- A family of sets of numbers below 64, in a world. -/
structure FamAt (w : World) (F W0 g0 rows cols : Nat) (fs : List (Nat × Nat)) : Prop where
  ff : Blk w F #[.int .i64 rows, .int .i64 cols, .slice (some ⟨W0, 0, none⟩) rows rows, .int .i64 fs.length]
  ww : Blk w W0 (arrOf rows (fun i => .slice (some ⟨g0 + i, 0, none⟩) 1 1))
  gg : ∀ i, i < rows → ∃ m : Nat, Blk w (g0 + i) #[.int .u64 m] ∧ wrdOf fs i m
  o1 : F < W0
  o2 : W0 < g0
  c64 : cols ≤ 64
  r64 : rows ≤ 4096
  rng : ∀ f ∈ fs, f.1 < rows ∧ f.2 < cols
  nodup : fs.Nodup
/-- The blocks that Add changes. -/
def famX (F g0 rows : Nat) (b : Nat) : Prop := b = F ∨ (g0 ≤ b ∧ b < g0 + rows)
theorem FamAt.kp {X : Nat → Prop} {w w' : World} {F W0 g0 rows cols : Nat} {fs : List (Nat × Nat)} (h : FamAt w F W0 g0 rows cols fs) (k : Kp X w w') (h1 : ¬ X F) (h2 : ¬ X W0) (h3 : ∀ i, i < rows → ¬ X (g0 + i)) : FamAt w' F W0 g0 rows cols fs :=
  ⟨k.blk h.ff h1, k.blk h.ww h2, fun i hi => by obtain ⟨m, hm, ho⟩ := h.gg i hi; exact ⟨m, k.blk hm (h3 i hi), ho⟩, h.o1, h.o2, h.c64, h.r64, h.rng, h.nodup⟩
theorem FamAt.below {w w' : World} {F W0 g0 rows cols : Nat} {fs : List (Nat × Nat)} (h : FamAt w F W0 g0 rows cols fs) (hb : Below w.heap.size w w') : FamAt w' F W0 g0 rows cols fs :=
  h.kp (Kp.of_below (X := fun _ => False) hb) id id (fun _ _ => id)
theorem fam_len {w : World} {F W0 g0 rows cols : Nat} {fs : List (Nat × Nat)} (h : FamAt w F W0 g0 rows cols fs) : fs.length ≤ rows * cols := by
  have h1 := nodup_le fs ((List.range rows).flatMap (fun i => (List.range cols).map (fun c => (i, c)))) h.nodup (fun f hf => by
    obtain ⟨a, b⟩ := h.rng f hf
    rw [List.mem_flatMap]
    exact ⟨f.1, List.mem_range.2 a, List.mem_map.2 ⟨f.2, List.mem_range.2 b, rfl⟩⟩)
  have h2 : ∀ l : List Nat, (l.flatMap (fun i => (List.range cols).map (fun c => (i, c)))).length = l.length * cols := by
    intro l
    induction l with
    | nil => simp
    | cons a r ih => rw [List.flatMap_cons, List.length_append, ih, List.length_map, List.length_range, List.length_cons, Nat.succ_mul, Nat.add_comm]
  rw [h2, List.length_range] at h1
  exact h1
end Go.Proofs.YtnnieegddbcfcaaGreatDoor
namespace Go.Proofs.YtnnieegddbcfcaaGreatDoor
open Go.RowKit Go.Shelf

section
variable {P : Program} {ops : Array Oper} {Q : Exit → Act → World → Prop} {md : Region.Mode} {S : World → Prop} {last : Nat}

/-- Operation j waits for operation i, at once or by way of others. -/
def underB (md : Region.Mode) (ops : Array Oper) : Nat → Nat → Nat → Bool
  | 0, _, _ => false
  | f + 1, j, i => match ops[j]? with
    | none => false
    | some o => o.after.any fun e => Region.binds md e && (e.on == i || underB md ops f e.on i)
/-- Of each operation that came up, all that it waits for came up. -/
def ClosedL (md : Region.Mode) (ops : Array Oper) (listed : Array Bool) : Prop :=
  ∀ j o, ops[j]? = some o → listed.getD j false = true → ∀ e ∈ o.after, Region.binds md e = true → listed.getD e.on false = true
def closedB (md : Region.Mode) (ops : Array Oper) (listed : Array Bool) : Bool :=
  (List.range ops.size).all fun j => !listed.getD j false || match ops[j]? with
    | some o => o.after.all fun e => !Region.binds md e || listed.getD e.on false
    | none => true
theorem closedB_spec {listed : Array Bool} (h : closedB md ops listed = true) : ClosedL md ops listed := by
  intro j o ho hl e he hb
  have h1 := List.all_eq_true.1 h j (List.mem_range.2 (Array.getElem?_eq_some_iff.1 ho).1)
  rw [hl, ho] at h1
  simp only [Bool.not_true, Bool.false_or] at h1
  have h2 := Array.all_eq_true_iff_forall_mem.1 h1 e he
  rw [hb] at h2
  simpa using h2
theorem under_listed {listed : Array Bool} (hc : ClosedL md ops listed) : ∀ (f j i : Nat), underB md ops f j i = true →
    (∀ o, ops[j]? = some o → ∀ e ∈ o.after, Region.binds md e = true → listed.getD e.on false = true) → listed.getD i false = true
  | 0, _, _, h, _ => by cases h
  | f + 1, j, i, h, hl => by
    unfold underB at h
    cases ho : ops[j]? with
    | none => rw [ho] at h; cases h
    | some o =>
      rw [ho] at h
      obtain ⟨e, he, hb⟩ := Array.any_eq_true'.1 h
      rw [Bool.and_eq_true, Bool.or_eq_true] at hb
      have h2 := hl o ho e he hb.1
      rcases hb.2 with h1 | h1
      · rw [← (beq_iff_eq.1 h1)]; exact h2
      · exact under_listed hc f e.on i h1 (fun o' ho' e' he' hb' => hc _ o' ho' h2 e' he' hb')
theorem closed_set {listed : Array Bool} {j : Nat} (hc : ClosedL md ops listed) (hj : j ∈ Region.ready md ops listed) : ClosedL md ops (listed.setIfInBounds j true) := by
  intro k o ho hl e he hb
  by_cases hk : k = j
  · subst hk
    obtain ⟨_, o', ho', hall⟩ := mem_ready.1 hj
    rw [ho] at ho'; cases ho'
    exact getD_set_true (hall e he hb)
  · rw [getD_set_ne false (Ne.symm hk)] at hl
    exact getD_set_true (hc k o ho hl e he hb)

/-- Whatever order is picked from here on; S holds behind each operation but the last one. -/
def wpAnyL (P : Program) (md : Region.Mode) (ops : Array Oper) (Q : Exit → Act → World → Prop) (S : World → Prop) (last : Nat) : Nat → Array Bool → Act → World → Prop
  | 0, listed, a, w => Region.ready md ops listed = [] ∧ Q .normal a w
  | fuel + 1, listed, a, w =>
    (Region.ready md ops listed = [] → Q .normal a w) ∧
    ∀ i ∈ Region.ready md ops listed, wpOp P ops Q i (fun a' w' => (i = last ∨ S w') ∧ wpAnyL P md ops Q S last fuel (listed.setIfInBounds i true) a' w') a w
theorem wpAny_of_l : ∀ (fuel : Nat) (listed : Array Bool) (a : Act) (w : World), wpAnyL P md ops Q S last fuel listed a w → wpAny P md ops Q fuel listed a w
  | 0, _, _, _, h => h
  | fuel + 1, _, _, _, h => ⟨h.1, fun i hi => wpOp_mono (fun a' w' h' => wpAny_of_l fuel _ a' w' h'.2) (h.2 i hi)⟩
theorem wpAnyL_first {i : Nat} {oi : Oper} {v : Value} (hi : ops[i]? = some oi) (hsel : ∀ (j : Nat) (o : Oper) cs b, ops[j]? = some o → o.op ≠ .select cs b)
    (hQ : ∀ c a w, Q (.panic c) (a.put oi.dst v) w → Q (.panic c) a w) (f : Nat) (hu : underB md ops f last i = true) :
    ∀ (fuel : Nat) (listed : Array Bool) (a : Act) (w : World), ClosedL md ops listed →
      (∀ j oj, ops[j]? = some oj → j ≠ i → listed.getD j true = false → (∀ e ∈ oj.after, Region.binds md e = true → e.on ≠ i) → oi.apart ops oj = true) →
      i ∈ Region.ready md ops listed → YieldsIf P ops S oi v a → S w →
      wpAnyL P md ops Q S last fuel (listed.setIfInBounds i true) (a.put oi.dst v) w → wpAnyL P md ops Q S last (fuel + 1) listed a w := by
  intro fuel
  induction fuel with
  | zero =>
    intro listed a w _ _ hr hy hS H
    refine ⟨fun h => (by rw [h] at hr; cases hr), fun j hj => ?_⟩
    by_cases hji : j = i
    · subst hji; exact hy.wpOp hi hS ⟨.inr hS, H⟩
    · have := ready_mono hj hji
      rw [H.1] at this
      cases this
  | succ fuel ih =>
    intro listed a w hc hfree hr hy hS H
    refine ⟨fun h => (by rw [h] at hr; cases hr), fun j hj => ?_⟩
    by_cases hji : j = i
    · subst hji; exact hy.wpOp hi hS ⟨.inr hS, H⟩
    · have h1 := H.2 j (ready_mono hj hji)
      obtain ⟨hjun, oj, hoj, hall⟩ := mem_ready.1 hj
      have hiun := (mem_ready.1 hr).1
      have noti : listed.getD i false = true → False := fun h1 => by
        rcases Nat.lt_or_ge i listed.size with h' | h'
        · simp [h'] at hiun h1; rw [hiun] at h1; cases h1
        · simp [Array.getElem?_eq_none h'] at h1
      have hnot : ∀ e ∈ oj.after, Region.binds md e = true → e.on ≠ i := fun e he hb heq => noti (heq ▸ hall e he hb)
      have hlast : j ≠ last := fun e => by
        subst e
        exact noti (under_listed hc _ _ _ hu (fun o ho e he hb => by rw [hoj] at ho; cases ho; exact hall e he hb))
      have h2 := wpOp_putIf hoj (hfree j oj hoj hji hjun hnot) (fun cs b => hsel i oi cs b hi) (fun cs b => hsel j oj cs b hoj) hQ hy h1
      have hfree' : ∀ k ok, ops[k]? = some ok → k ≠ i → (listed.setIfInBounds j true).getD k true = false →
          (∀ e ∈ ok.after, Region.binds md e = true → e.on ≠ i) → oi.apart ops ok = true := fun k ok hk hki hun hno => by
        refine hfree k ok hk hki ?_ hno
        by_cases hjk : j = k
        · subst hjk; exact hjun
        · rw [getD_set_ne true hjk] at hun; exact hun
      refine wpOp_mono (fun a' w' h3 => ⟨h3.2.1, ih (listed.setIfInBounds j true) a' w' (closed_set hc hj) hfree' (ready_mono hr (Ne.symm hji)) h3.1 (h3.2.1.resolve_left hlast) ?_⟩) h2
      rw [Array.setIfInBounds_comm _ _ hji]
      exact h3.2.2
theorem wpAnyL_done {listed : Array Bool} {a : Act} {w : World} (hr : Region.ready md ops listed = []) (h : Q .normal a w) :
    ∀ fuel, wpAnyL P md ops Q S last fuel listed a w
  | 0 => ⟨hr, h⟩
  | _ + 1 => ⟨fun _ => h, by rw [hr]; simp⟩
end

/-- The beginning. -/
theorem wp_region_last {P : Program} {Q : Exit → Act → World → Prop} {S : World → Prop} {l : List Oper} {id : Nat} {a : Act} {w : World} (last : Nat) (hm : P.follows .mixedOrders = true) (hS : S w.drew)
    (h : S w.drew → wpAnyL P .any l.toArray Q S last l.toArray.size (Array.replicate l.toArray.size false) a w.drew) : (Code.region id l.toArray true).wp P Q a w :=
  wp_region_any hm (wpAny_of_l _ _ _ _ (h hS))
theorem last_yes {P : Program} {md : Region.Mode} {S : World → Prop} {Q : Exit → Act → World → Prop} {fuel last : Nat} {listed : Array Bool} {a : Act} {w : World} {v : Value} {oi : Oper} {l : List Oper} (i : Nat) (hi : nthOp l i = some oi)
    (hs : Region.noSelect l.toArray = true) (hf : Region.free md l.toArray listed i = true) (hr : (Region.ready md l.toArray listed).contains i = true) (hu : underB md l.toArray l.length last i = true) (hc : closedB md l.toArray listed = true)
    (hQ : ∀ c a w, Q (.panic c) (a.put oi.dst v) w → Q (.panic c) a w) (hw : Region.wanted oi (yielded l.toArray a.tmps) = true) (hS : S w) (hy : ∀ w, S w → (execOp a.eval oi).run P w = .ok (.value v) w)
    (h : wpAnyL P md l.toArray Q S last fuel (listed.setIfInBounds i true) (a.put oi.dst v) w) : wpAnyL P md l.toArray Q S last (fuel + 1) listed a w := by
  have hi' : l.toArray[i]? = some oi := by rw [nthOp_get]; exact hi
  exact wpAnyL_first hi' (Region.noSelect_spec hs) hQ _ hu fuel listed a w (closedB_spec hc) (Region.free_spec hi' hf) (by simpa using hr) (Or.inl ⟨hw, hy⟩) hS h
theorem last_call {P : Program} {md : Region.Mode} {S : World → Prop} {Q : Exit → Act → World → Prop} {fuel last : Nat} {listed : Array Bool} {a : Act} {w : World} {oi : Oper} {l : List Oper} (i : Nat) (hi : nthOp l i = some oi)
    (hr : Region.ready md l.toArray listed = [i])
    (h : ∀ K' : Act → World → Prop, Shut (∀ a w, S w → (S w → wpAnyL P md l.toArray Q S last fuel (listed.setIfInBounds i true) a w) → K' a w) → if Region.wanted oi (yielded l.toArray a.tmps) = true then Oper.wp P oi a w K' Q else K' (a.put oi.dst undef) w) :
    wpAnyL P md l.toArray Q S last (fuel + 1) listed a w := by
  refine ⟨fun h0 => (by rw [hr] at h0; cases h0), ?_⟩
  rw [hr]
  intro j hj
  rw [List.mem_singleton] at hj
  subst hj
  exact wpOp_step (by rw [nthOp_get]; exact hi) (fun K' hK => h K' (fun a w hS hW => hK a w ⟨.inr hS, hW hS⟩))
/-- The last operation: behind it the region is at its end. -/
theorem last_end {P : Program} {md : Region.Mode} {S : World → Prop} {Q : Exit → Act → World → Prop} {fuel : Nat} {listed : Array Bool} {a : Act} {w : World} {oi : Oper} {l : List Oper} (i : Nat) (hi : nthOp l i = some oi)
    (hr : Region.ready md l.toArray listed = [i]) (hd : Region.ready md l.toArray (listed.setIfInBounds i true) = [])
    (h : ∀ K' : Act → World → Prop, Shut (∀ a w, Q .normal a w → K' a w) → if Region.wanted oi (yielded l.toArray a.tmps) = true then Oper.wp P oi a w K' Q else K' (a.put oi.dst undef) w) :
    wpAnyL P md l.toArray Q S i (fuel + 1) listed a w := by
  refine ⟨fun h0 => (by rw [hr] at h0; cases h0), ?_⟩
  rw [hr]
  intro j hj
  rw [List.mem_singleton] at hj
  subst hj
  exact wpOp_step (by rw [nthOp_get]; exact hi) (fun K' hK => h K' (fun a w hQ => hK a w ⟨.inl rfl, wpAnyL_done hd hQ _⟩))
end Go.Proofs.YtnnieegddbcfcaaGreatDoor
namespace Go.Proofs.YtnnieegddbcfcaaGreatDoor
open Go.RowKit Go.Shelf

section
variable {w : World} {F W0 g0 rows cols : Nat} {fs : List (Nat × Nat)}
theorem fam_Rows (h : FamAt w F W0 g0 rows cols fs) : Calls Tryz.prog 188 #[.pointer (some ⟨F, 0, none⟩)] w fun e w' => e = .returned (.int .i64 rows) ∧ w' = w := by
  obtain ⟨ca, fa, za⟩ := h.ff
  clear h
  go_enter Tryz.func188, Tryz.ntmps188
  go_wp2
  go_ret
  exact ⟨rfl, rfl⟩
theorem fam_row (h : FamAt w F W0 g0 rows cols fs) (i : Nat) (hi : i < rows) : Calls Tryz.prog 141 #[.pointer (some ⟨F, 0, none⟩), .int .i64 i] w fun e w' => e = .returned (.slice (some ⟨g0 + i, 0, none⟩) 1 1) ∧ w' = w := by
  have R := Lib.hid (fam_Rows h)
  have h64 := h.r64
  obtain ⟨ca, fa, za⟩ := h.ff
  obtain ⟨cw, fw, zw⟩ := h.ww
  have cwi := cw i
  rw [arrOf_get, if_pos hi] at cwi
  clear h cw fw
  go_enter Tryz.func141, Tryz.ntmps141
  go_wp2_with fail
  refine R.out.mono ?_
  rintro e w1 ⟨rfl, rfl⟩
  go_wp2
  go_ret
  exact ⟨rfl, rfl⟩
theorem fam_rowNo (h : FamAt w F W0 g0 rows cols fs) (i : Int) (hi : ¬ (0 ≤ i ∧ i < rows)) : Calls Tryz.prog 141 #[.pointer (some ⟨F, 0, none⟩), .int .i64 i] w fun e w' => e = .returned (.slice none 0 0) ∧ w' = w := by
  have R := Lib.hid (fam_Rows h)
  obtain ⟨ca, fa, za⟩ := h.ff
  clear h
  by_cases h0 : i < 0
  · have d : decide (i < 0) = true := decide_eq_true h0
    clear h0 hi
    go_enter Tryz.func141, Tryz.ntmps141
    go_wp2
    go_ret
    exact ⟨rfl, rfl⟩
  · have d : decide (i < 0) = false := decide_eq_false h0
    have d2 : decide ((rows : Int) ≤ i) = true := decide_eq_true (by omega)
    clear h0 hi
    go_enter Tryz.func141, Tryz.ntmps141
    go_wp2_with fail
    refine R.out.mono ?_
    rintro e w1 ⟨rfl, rfl⟩
    go_wp2
    go_ret
    exact ⟨rfl, rfl⟩
def hasF (fs : List (Nat × Nat)) (r c : Int) : Bool := decide (0 ≤ r ∧ 0 ≤ c ∧ (r.toNat, c.toNat) ∈ fs)
theorem hasF_nat (fs : List (Nat × Nat)) (r c : Nat) : hasF fs r c = decide ((r, c) ∈ fs) := by
  unfold hasF
  rw [decide_eq_decide]
  exact ⟨fun h => h.2.2, fun h => ⟨by omega, by omega, h⟩⟩
theorem hasF_no (h : FamAt w F W0 g0 rows cols fs) {r c : Int} (hn : ¬ (0 ≤ r ∧ r < rows) ∨ ¬ (0 ≤ c ∧ c < cols)) : hasF fs r c = false := by
  unfold hasF
  rw [decide_eq_false_iff_not]
  rintro ⟨h1, h2, h3⟩
  have := h.rng _ h3
  dsimp only at this
  omega
set_option maxRecDepth 100000 in
set_option maxHeartbeats 2000000 in
theorem fam_Has (h : FamAt w F W0 g0 rows cols fs) (r c : Int) : Calls Tryz.prog 170 #[.pointer (some ⟨F, 0, none⟩), .int .i64 r, .int .i64 c] w fun e w' => e = .returned (.bool (hasF fs r c)) ∧ w' = w := by
  have HN := Lib.hid (fun (hn : ¬ (0 ≤ r ∧ r < rows) ∨ ¬ (0 ≤ c ∧ c < cols)) => hasF_no h hn)
  by_cases hr : 0 ≤ r ∧ r < rows
  · obtain ⟨i, rfl⟩ := Int.eq_ofNat_of_zero_le hr.1
    have hi : i < rows := by omega
    have R := Lib.hid (fam_row h i hi)
    obtain ⟨m, ⟨cm, fm, zm⟩, hw⟩ := h.gg i hi
    have c64 := h.c64
    obtain ⟨ca, fa, za⟩ := h.ff
    clear h fm fa hr
    by_cases hc : 0 ≤ c ∧ c < cols
    · obtain ⟨j, rfl⟩ := Int.eq_ofNat_of_zero_le hc.1
      have hj : j < cols := by omega
      have hb := word_has (c := j) hw
      have RES := Lib.hid (hasF_nat fs i j)
      rw [← hb] at RES
      generalize hasF fs (i : Int) (j : Int) = res at RES ⊢
      have e0 : j / 64 = 0 := Nat.div_eq_of_lt (by omega)
      have e2 : (j : Int) % 64 = (j : Int) := by omega
      have e3 : (j : Int).tmod 64 = (j : Int) := by rw [Int.tmod_eq_emod_of_nonneg (by omega)]; exact e2
      clear hw hb hc
      go_enter Tryz.func170, Tryz.ntmps170
      go_wp2_with fail
      refine R.out.mono ?_
      rintro e w1 ⟨rfl, rfl⟩
      go_wp2
      go_ret
      exact ⟨ret_b (by rw [RES.out]), rfl⟩
    · have RES := Lib.hid (HN.out (.inr hc))
      generalize hasF fs (i : Int) c = res at RES ⊢
      clear hw HN
      by_cases h0 : 0 ≤ c
      · have d : decide (0 ≤ c) = true := decide_eq_true h0
        have d2 : decide (c < (cols : Int)) = false := decide_eq_false (by omega)
        clear h0 hc
        go_enter Tryz.func170, Tryz.ntmps170
        go_wp2_with fail
        refine R.out.mono ?_
        rintro e w1 ⟨rfl, rfl⟩
        go_wp2
        go_ret
        exact ⟨ret_b (by rw [RES.out]), rfl⟩
      · have d : decide (0 ≤ c) = false := decide_eq_false h0
        clear h0 hc
        go_enter Tryz.func170, Tryz.ntmps170
        go_wp2_with fail
        refine R.out.mono ?_
        rintro e w1 ⟨rfl, rfl⟩
        go_wp2
        go_ret
        exact ⟨ret_b (by rw [RES.out]), rfl⟩
  · have R := Lib.hid (fam_rowNo h r hr)
    have RES := Lib.hid (HN.out (.inl hr))
    generalize hasF fs r c = res at RES ⊢
    clear HN h hr
    go_enter Tryz.func170, Tryz.ntmps170
    go_wp2_with fail
    refine R.out.mono ?_
    rintro e w1 ⟨rfl, rfl⟩
    go_wp2
    go_ret
    exact ⟨ret_b (by rw [RES.out]), rfl⟩
theorem eql_nil (b : Addr) (n c : Nat) (W : World) : (binOp .eql 154 (.slice (some b) n c) (.slice none 0 0)).run Tryz.prog W = .ok (.bool false) W := by
  exact Go.Lib.run_eql_slice_nil W _ _ _ _ _ _ _ Tryz.underlying154
/-- What Add leaves. -/
def addF (fs : List (Nat × Nat)) (r c : Nat) : List (Nat × Nat) := if (r, c) ∈ fs then fs else fs ++ [(r, c)]
set_option maxRecDepth 100000 in
set_option maxHeartbeats 4000000 in
theorem fam_Add (h : FamAt w F W0 g0 rows cols fs) (r c : Nat) (hr : r < rows) (hc : c < cols) : Calls Tryz.prog 212 #[.pointer (some ⟨F, 0, none⟩), .int .i64 r, .int .i64 c] w fun e w' =>
    e = .returned (.bool (!decide ((r, c) ∈ fs))) ∧ FamAt w' F W0 g0 rows cols (addF fs r c) ∧ Kp (famX F g0 rows) w w' := by
  have HS := fam_Has h r c
  rw [hasF_nat] at HS
  have HS := Lib.hid HS
  have R := Lib.hid (fam_row h r hr)
  have HF := Lib.hid h
  have hEN := fun W => eql_nil ⟨g0 + r, 0, none⟩ 1 1 W
  have c64 := h.c64
  have d1 : decide ((c : Int) < 0) = false := decide_eq_false (by omega)
  have d2 : decide ((cols : Int) ≤ (c : Int)) = false := decide_eq_false (by omega)
  obtain ⟨ca, fa, za⟩ := h.ff
  by_cases hf : (r, c) ∈ fs
  · have RES := Lib.hid (show addF fs r c = fs from if_pos hf)
    rw [decide_eq_true hf] at HS ⊢
    clear h hf
    go_enter Tryz.func212, Tryz.ntmps212
    go_wp2_with fail
    refine R.out.mono ?_
    rintro e w1 ⟨rfl, rfl⟩
    go_wp2_with fail
    refine HS.out.mono ?_
    rintro e w1 ⟨rfl, rfl⟩
    go_wp2
    go_ret
    exact ⟨rfl, by rw [RES.out]; exact HF.out, Kp.refl _ _⟩
  · have RES := Lib.hid (show addF fs r c = fs ++ [(r, c)] from if_neg hf)
    have HNF := Lib.hid hf
    rw [decide_eq_false hf] at HS ⊢
    obtain ⟨m, hm, hw⟩ := h.gg r hr
    have HW := Lib.hid hw
    have HM := Lib.hid hm
    have hlen := fam_len h
    have hlen2 : rows * cols ≤ 4096 * 64 := Nat.mul_le_mul h.r64 h.c64
    obtain ⟨cm, fm, zm⟩ := hm
    have e0 : c / 64 = 0 := Nat.div_eq_of_lt (by omega)
    have e2 : (c : Int) % 64 = (c : Int) := by omega
    clear h hf hw
    go_enter Tryz.func212, Tryz.ntmps212
    go_wp2_with fail
    refine R.out.mono ?_
    rintro e w1 ⟨rfl, rfl⟩
    go_wp2_with fail
    refine HS.out.mono ?_
    rintro e w1 ⟨rfl, rfl⟩
    go_wp2_with fail
    have HFd := Lib.hid (HF.out.below (below_drew (Below.refl _ _)))
    refine wp_region_last (S := (fun W => ∀ o, W.cell? ⟨g0 + r, o, none⟩ = (#[.int .u64 m] : Array Value)[o]?)) 10 (by kernel_rfl) (by intro o; rw [World.cell?_drew]; exact cm o) (fun hHeld => ?_)
    have HM := Lib.hid (HM.out.below (below_drew (Below.refl _ _)))
    obtain ⟨wk, hwk⟩ : ∃ W, W = w1.drew := ⟨_, rfl⟩
    rw [← hwk] at HM HFd hHeld ⊢
    have HKP := Lib.hid (show Kp (famX F g0 rows) w1 wk by rw [hwk]; exact (Kp.refl _ _).drew)
    have ew : IntKind.i64.wrap ((c : Int) / 64) = 0 := by rw [show (c : Int) / 64 = 0 by omega]; rfl
    have er : IntKind.i64.wrap ((c : Int) % 64) = (c : Int) := by rw [e2]; exact Go.IntWalk.i64_in _ (by omega)
    have hcz : (c : Int) ≤ 64 := by omega
    have hcz0 : (0 : Int) ≤ (c : Int) := by omega
    have et : (c : Int).tmod 64 = (c : Int) := by rw [Int.tmod_eq_emod_of_nonneg (by omega)]; exact e2
    have HOR := Lib.hid (show bits .or .u64 (m : Int) (IntKind.u64.wrap (2 ^ c)) = ((m ||| 2 ^ c : Nat) : Int) by
      have hp : 2 ^ c < 2 ^ 64 := Nat.pow_lt_pow_right (by decide) (by omega)
      have e : IntKind.u64.wrap (2 ^ c) = ((2 ^ c : Nat) : Int) := by
        rw [show ((2 : Int) ^ c) = ((2 ^ c : Nat) : Int) by rw [Int.natCast_pow]; rfl]
        generalize 2 ^ c = q at *
        exact Go.IntWalk.u64_in _ (by omega)
      rw [e]
      exact bits_or_u64_nat _ _ HW.out.1 hp)
    clear hwk
    (refine last_yes (v := ?_) 0 rfl (by kernel_rfl) (by kernel_rfl) (by kernel_rfl) (by kernel_rfl) (by kernel_rfl) (fun _ _ _ h => h) (by rfl) (by assumption) ?_ ?_; rotate_left; (focus ((intro w hSw); (try dsimp only at hSw); go_simp; (try with_reducible rfl))); (try simp only [Act.put, List.setIfInBounds_toArray, List.set_cons_zero, List.set_cons_succ])); (refine last_yes (v := ?_) 1 rfl (by kernel_rfl) (by kernel_rfl) (by kernel_rfl) (by kernel_rfl) (by kernel_rfl) (fun _ _ _ h => h) (by rfl) (by assumption) ?_ ?_; rotate_left; (focus ((intro w hSw); (try dsimp only at hSw); go_simp; (try with_reducible rfl))); (try simp only [Act.put, List.setIfInBounds_toArray, List.set_cons_zero, List.set_cons_succ])); (refine last_yes (v := ?_) 2 rfl (by kernel_rfl) (by kernel_rfl) (by kernel_rfl) (by kernel_rfl) (by kernel_rfl) (fun _ _ _ h => h) (by rfl) (by assumption) ?_ ?_; rotate_left; (focus ((intro w hSw); (try dsimp only at hSw); go_simp; (try with_reducible rfl))); (try simp only [Act.put, List.setIfInBounds_toArray, List.set_cons_zero, List.set_cons_succ])); (refine last_yes (v := ?_) 3 rfl (by kernel_rfl) (by kernel_rfl) (by kernel_rfl) (by kernel_rfl) (by kernel_rfl) (fun _ _ _ h => h) (by rfl) (by assumption) ?_ ?_; rotate_left; (focus ((intro w hSw); (try dsimp only at hSw); go_simp; (try with_reducible rfl))); (try simp only [Act.put, List.setIfInBounds_toArray, List.set_cons_zero, List.set_cons_succ])); (refine last_yes (v := ?_) 4 rfl (by kernel_rfl) (by kernel_rfl) (by kernel_rfl) (by kernel_rfl) (by kernel_rfl) (fun _ _ _ h => h) (by rfl) (by assumption) ?_ ?_; rotate_left; (focus ((intro w hSw); (try dsimp only at hSw); go_simp; (try with_reducible rfl))); (try simp only [Act.put, List.setIfInBounds_toArray, List.set_cons_zero, List.set_cons_succ])); (refine last_yes (v := ?_) 5 rfl (by kernel_rfl) (by kernel_rfl) (by kernel_rfl) (by kernel_rfl) (by kernel_rfl) (fun _ _ _ h => h) (by rfl) (by assumption) ?_ ?_; rotate_left; (focus ((intro w hSw); (try dsimp only at hSw); go_simp; (try with_reducible rfl))); (try simp only [Act.put, List.setIfInBounds_toArray, List.set_cons_zero, List.set_cons_succ])); (refine last_yes (v := ?_) 6 rfl (by kernel_rfl) (by kernel_rfl) (by kernel_rfl) (by kernel_rfl) (by kernel_rfl) (fun _ _ _ h => h) (by rfl) (by assumption) ?_ ?_; rotate_left; (focus ((intro w hSw); (try dsimp only at hSw); go_simp; (try with_reducible rfl))); (try simp only [Act.put, List.setIfInBounds_toArray, List.set_cons_zero, List.set_cons_succ])); (refine last_yes (v := ?_) 7 rfl (by kernel_rfl) (by kernel_rfl) (by kernel_rfl) (by kernel_rfl) (by kernel_rfl) (fun _ _ _ h => h) (by rfl) (by assumption) ?_ ?_; rotate_left; (focus ((intro w hSw); (try dsimp only at hSw); go_simp; (try with_reducible rfl))); (try simp only [Act.put, List.setIfInBounds_toArray, List.set_cons_zero, List.set_cons_succ])); (refine last_yes (v := ?_) 8 rfl (by kernel_rfl) (by kernel_rfl) (by kernel_rfl) (by kernel_rfl) (by kernel_rfl) (fun _ _ _ h => h) (by rfl) (by assumption) ?_ ?_; rotate_left; (focus ((intro w hSw); (try dsimp only at hSw); go_simp; (try with_reducible rfl))); (try simp only [Act.put, List.setIfInBounds_toArray, List.set_cons_zero, List.set_cons_succ])); (refine last_yes (v := ?_) 9 rfl (by kernel_rfl) (by kernel_rfl) (by kernel_rfl) (by kernel_rfl) (by kernel_rfl) (fun _ _ _ h => h) (by rfl) (by assumption) ?_ ?_; rotate_left; (focus ((intro w hSw); (try dsimp only at hSw); go_simp; (try with_reducible rfl))); (try simp only [Act.put, List.setIfInBounds_toArray, List.set_cons_zero, List.set_cons_succ]))
    obtain ⟨cm2, fm2, zm2⟩ := HM.out
    (refine last_end 10 rfl (by kernel_rfl) (by kernel_rfl) (fun K hK => ?_); go_simp)
    rw [HOR.out]
    clear cm2 fm2 zm2
    refine hK.out _ _ ?_
    clear hK K
    have hwp := HW.out.put (c := c) (by omega)
    generalize hW1 : wk.setCell ⟨g0 + r, 0, none⟩ (.int .u64 ((m ||| 2 ^ c : Nat) : Int)) = wv
    have HKP := Lib.hid (HKP.out.trans (show Kp (famX F g0 rows) wk wv by rw [← hW1]; exact Kp.set (.inr ⟨by omega, by omega⟩)) (fun _ _ h => h))
    have HM2 := Lib.hid (show Blk wv (g0 + r) #[.int .u64 ((m ||| 2 ^ c : Nat) : Int)] by rw [← hW1]; simpa using HM.out.put (o := 0) (v := .int .u64 ((m ||| 2 ^ c : Nat) : Int)) (by simp))
    have o1 := HF.out.o1
    have o2 := HF.out.o2
    have HFF := Lib.hid (show Blk wv F #[.int .i64 rows, .int .i64 cols, .slice (some ⟨W0, 0, none⟩) rows rows, .int .i64 fs.length] by rw [← hW1]; exact HFd.out.ff.far (by omega))
    have HWW := Lib.hid (show Blk wv W0 (arrOf rows (fun i => .slice (some ⟨g0 + i, 0, none⟩) 1 1)) by rw [← hW1]; exact HFd.out.ww.far (by omega))
    have HGG := Lib.hid (show ∀ i, i < rows → ∃ m : Nat, Blk wv (g0 + i) #[.int .u64 m] ∧ wrdOf (fs ++ [(r, c)]) i m from fun i hi => by
      by_cases e : r = i
      · subst e; exact ⟨_, HM2.out, hwp⟩
      · obtain ⟨m', hm', hw'⟩ := HFd.out.gg i hi
        exact ⟨m', by rw [← hW1]; exact hm'.far (by omega), hw'.other e⟩)
    clear hwp hW1 HFd HM HOR HW ew er et hcz hcz0 e0 e2 HM2
    have ca2 := HFF.out.1
    go_wp2_with fail
    refine wp_region_last (S := (fun W => ∀ o, W.cell? ⟨F, o, none⟩ = (#[.int .i64 rows, .int .i64 cols, .slice (some ⟨W0, 0, none⟩) rows rows, .int .i64 fs.length] : Array Value)[o]?)) 9 (by kernel_rfl) (by intro o; rw [World.cell?_drew]; exact ca2 o) (fun hHeld => ?_)
    have hwl : IntKind.i64.wrap ((fs.length : Int) + 1) = (fs.length : Int) + 1 := Go.IntWalk.i64_in _ (by omega)
    (refine last_yes (v := ?_) 0 rfl (by kernel_rfl) (by kernel_rfl) (by kernel_rfl) (by kernel_rfl) (by kernel_rfl) (fun _ _ _ h => h) (by rfl) (by assumption) ?_ ?_; rotate_left; (focus ((intro w hSw); (try dsimp only at hSw); go_simp; (try with_reducible rfl))); (try simp only [Act.put, List.setIfInBounds_toArray, List.set_cons_zero, List.set_cons_succ])); (refine last_yes (v := ?_) 1 rfl (by kernel_rfl) (by kernel_rfl) (by kernel_rfl) (by kernel_rfl) (by kernel_rfl) (fun _ _ _ h => h) (by rfl) (by assumption) ?_ ?_; rotate_left; (focus ((intro w hSw); (try dsimp only at hSw); go_simp; (try with_reducible rfl))); (try simp only [Act.put, List.setIfInBounds_toArray, List.set_cons_zero, List.set_cons_succ])); (refine last_yes (v := ?_) 2 rfl (by kernel_rfl) (by kernel_rfl) (by kernel_rfl) (by kernel_rfl) (by kernel_rfl) (fun _ _ _ h => h) (by rfl) (by assumption) ?_ ?_; rotate_left; (focus ((intro w hSw); (try dsimp only at hSw); go_simp; (try with_reducible rfl))); (try simp only [Act.put, List.setIfInBounds_toArray, List.set_cons_zero, List.set_cons_succ])); (refine last_yes (v := ?_) 3 rfl (by kernel_rfl) (by kernel_rfl) (by kernel_rfl) (by kernel_rfl) (by kernel_rfl) (fun _ _ _ h => h) (by rfl) (by assumption) ?_ ?_; rotate_left; (focus ((intro w hSw); (try dsimp only at hSw); go_simp; (try with_reducible rfl))); (try simp only [Act.put, List.setIfInBounds_toArray, List.set_cons_zero, List.set_cons_succ])); (refine last_yes (v := ?_) 4 rfl (by kernel_rfl) (by kernel_rfl) (by kernel_rfl) (by kernel_rfl) (by kernel_rfl) (fun _ _ _ h => h) (by rfl) (by assumption) ?_ ?_; rotate_left; (focus ((intro w hSw); (try dsimp only at hSw); go_simp; (try with_reducible rfl))); (try simp only [Act.put, List.setIfInBounds_toArray, List.set_cons_zero, List.set_cons_succ])); (refine last_yes (v := ?_) 5 rfl (by kernel_rfl) (by kernel_rfl) (by kernel_rfl) (by kernel_rfl) (by kernel_rfl) (fun _ _ _ h => h) (by rfl) (by assumption) ?_ ?_; rotate_left; (focus ((intro w hSw); (try dsimp only at hSw); go_simp; (try with_reducible rfl))); (try simp only [Act.put, List.setIfInBounds_toArray, List.set_cons_zero, List.set_cons_succ])); (refine last_yes (v := ?_) 6 rfl (by kernel_rfl) (by kernel_rfl) (by kernel_rfl) (by kernel_rfl) (by kernel_rfl) (fun _ _ _ h => h) (by rfl) (by assumption) ?_ ?_; rotate_left; (focus ((intro w hSw); (try dsimp only at hSw); go_simp; (try with_reducible rfl))); (try simp only [Act.put, List.setIfInBounds_toArray, List.set_cons_zero, List.set_cons_succ])); (refine last_yes (v := ?_) 7 rfl (by kernel_rfl) (by kernel_rfl) (by kernel_rfl) (by kernel_rfl) (by kernel_rfl) (fun _ _ _ h => h) (by rfl) (by assumption) ?_ ?_; rotate_left; (focus ((intro w hSw); (try dsimp only at hSw); go_simp; (try with_reducible rfl))); (try simp only [Act.put, List.setIfInBounds_toArray, List.set_cons_zero, List.set_cons_succ])); (refine last_yes (v := ?_) 8 rfl (by kernel_rfl) (by kernel_rfl) (by kernel_rfl) (by kernel_rfl) (by kernel_rfl) (fun _ _ _ h => h) (by rfl) (by assumption) ?_ ?_; rotate_left; (focus ((intro w hSw); (try dsimp only at hSw); go_simp; (try with_reducible rfl))); (try simp only [Act.put, List.setIfInBounds_toArray, List.set_cons_zero, List.set_cons_succ]))
    obtain ⟨cm2, fm2, zm2⟩ := HFF.out
    (refine last_end 9 rfl (by kernel_rfl) (by kernel_rfl) (fun K hK => ?_); go_simp)
    clear cm2 fm2 zm2
    refine hK.out _ _ ?_
    clear hK K
    have HFE := Lib.hid (show Blk ((wv.setCell ⟨F, 3, none⟩ (.int .i64 ((fs.length : Int) + 1))).drew) F #[.int .i64 rows, .int .i64 cols, .slice (some ⟨W0, 0, none⟩) rows rows, .int .i64 ((fs ++ [(r, c)]).length : Nat)] by
      rw [List.length_append]
      have := HFF.out.put (o := 3) (v := .int .i64 ((fs.length : Int) + 1)) (by simp)
      exact this.below (below_drew (Below.refl _ _)))
    have HWE := Lib.hid ((HWW.out.far (g := F) (o := 3) (v := .int .i64 ((fs.length : Int) + 1)) (by omega)).below (below_drew (Below.refl _ _)))
    have HGE := Lib.hid (fun i hi => by
      obtain ⟨m', hm', hw'⟩ := HGG.out i hi
      exact (⟨m', (hm'.far (g := F) (o := 3) (v := .int .i64 ((fs.length : Int) + 1)) (by omega)).below (below_drew (Below.refl _ _)), hw'⟩ : ∃ m : Nat, Blk ((wv.setCell ⟨F, 3, none⟩ (.int .i64 ((fs.length : Int) + 1))).drew) (g0 + i) #[.int .u64 m] ∧ wrdOf (fs ++ [(r, c)]) i m))
    have HKE := Lib.hid ((HKP.out.trans (Kp.set (X := famX F g0 rows) (o := 3) (v := .int .i64 ((fs.length : Int) + 1)) (.inl rfl)) (fun _ _ h => h)).drew)
    generalize (wv.setCell ⟨F, 3, none⟩ (.int .i64 ((fs.length : Int) + 1))).drew = we at *
    clear HFF HWW HGG HKP ca2 hwl
    go_wp2
    go_ret
    refine ⟨rfl, ?_, HKE.out⟩
    rw [RES.out]
    exact ⟨HFE.out, HWE.out, HGE.out, HF.out.o1, HF.out.o2, HF.out.c64, HF.out.r64, fun f hf => by
      rcases List.mem_append.1 hf with hf | hf
      · exact HF.out.rng f hf
      · rw [List.mem_singleton.1 hf]; exact ⟨hr, hc⟩, nodup_snoc HF.out.nodup HNF.out⟩
end
end Go.Proofs.YtnnieegddbcfcaaGreatDoor
namespace Go.Proofs.YtnnieegddbcfcaaGreatDoor
open Go.RowKit Go.Shelf

/-- The library's table behind TrailingZeros64. -/
def TB (w : World) : Prop := ∀ j, j < Lib.deBruijn64tab.length → w.cell? ⟨0, j, none⟩ = some (.int .u8 (Lib.deBruijn64tab.getD j 0))
theorem TB.below {w w' : World} (h : TB w) (hb : Below w.heap.size w w') : TB w' := by
  exact fun j hj => (hb.cell (p := ⟨0, j, none⟩) (World.block_lt_of_cell? w _ (h j hj))).trans (h j hj)
theorem tz_key (x a : Nat) (hx : x < 18446744073709551616) (hx0 : x ≠ 0) (hlow : x &&& (18446744073709551616 - x) = a) :
    IntKind.u64.wrap (bits BinOp.and IntKind.u64 (x : Int) (IntKind.u64.wrap (-(x : Int))) * 285870213051353865) / 288230376151711744 = ((a * 285870213051353865 % 18446744073709551616 / 288230376151711744 : Nat) : Int) := by
  have e1 : IntKind.u64.wrap (-(x : Int)) = ((18446744073709551616 - x : Nat) : Int) := by rw [IntKind.wrap_u64]; omega
  rw [e1, bits_and_u64_nat x _ hx (by omega), hlow, IntKind.wrap_u64]
  omega
set_option maxHeartbeats 1000000 in
theorem tz_core (x k idx : Nat) (w : World) (hx1 : ((x : Int) == 0) = false)
    (key : IntKind.u64.wrap (bits BinOp.and IntKind.u64 (x : Int) (IntKind.u64.wrap (-(x : Int))) * 285870213051353865) / 288230376151711744 = (idx : Int))
    (hi : idx < 64) (hk : k < 64) (hcell : w.cell? ⟨0, idx, none⟩ = some (.int .u8 k)) :
    Calls Tryz.prog 142 #[.int .u64 x] w fun e w' => e = .returned (.int .i64 k) ∧ w' = w := by
  go_enter Tryz.func142, Tryz.ntmps142
  go_wp2_with (simp only [key])
  go_ret
  exact ⟨rfl, rfl⟩
theorem bits_tz (x : Nat) (hx0 : 0 < x) (hx : x < 18446744073709551616) (w : World) (hT : TB w) :
    Calls Tryz.prog 142 #[.int .u64 x] w fun e w' => e = .returned (.int .i64 (Lib.ctz 64 x)) ∧ w' = w := by
  have hne : x ≠ 0 := by omega
  obtain ⟨hlow, hk⟩ := Lib.lowest_bit 64 x hne hx
  obtain ⟨hi, htab⟩ := Lib.deBruijn64_at _ hk
  have hcell := hT _ hi
  rw [htab] at hcell
  exact tz_core x _ _ w (by simp; omega) (tz_key x _ hx hne hlow) hi hk hcell
def ints (l : List Nat) : List Value := l.map (fun (c : Nat) => .int .i64 (c : Int))
theorem int_info : (Tryz.prog.info? 3).map (fun i => (i.zero, i.size, i.bytes)) = some (some (.int .i64 0), 1, 8) := by kernel_rfl
theorem int1 (x : Int) : ∀ u ∈ [Value.int .i64 x], u.oneCell' = true := fun u hu => by rw [List.mem_singleton.1 hu]; rfl
set_option maxRecDepth 100000 in
set_option maxHeartbeats 4000000 in
theorem fam_List {w : World} {F W0 g0 rows cols : Nat} {fs : List (Nat × Nat)} (h : FamAt w F W0 g0 rows cols fs) (hT : TB w) (i : Nat) (hi : i < rows) :
    Calls Tryz.prog 94 #[.pointer (some ⟨F, 0, none⟩), .int .i64 i] w fun e w' => ∃ v, e = .returned v ∧ w'.ownsRow w.heap.size 3 1 v (colsOf fs i).length (ints (colsOf fs i)) ∧ Below w.heap.size w w' := by
  have R := Lib.hid (fam_row h i hi)
  obtain ⟨m, hm, hw⟩ := h.gg i hi
  have HM := Lib.hid hm
  have BC := Lib.hid (bits_cols hw)
  have hm64 := hw.1
  have HTB := Lib.hid hT
  have HCL := colsOf_len fs i
  rw [← BC.out] at HCL ⊢
  clear h hm hw hT BC
  go_enter Tryz.func94, Tryz.ntmps94
  go_wp2_with fail
  refine R.out.mono ?_
  rintro e w1 ⟨rfl, rfl⟩
  clear R
  go_wp2_with fail
  go_loopw [4, 11] (fun vo i wr => ∃ (k : Nat) (xs : List Nat), k ≤ 1 ∧ i = .int .i64 k ∧ Hid (Below w1.heap.size w1 wr) ∧ Hid (wr.ownsRow w1.heap.size 3 1 vo xs.length (ints xs)) ∧ Hid (k = 0 → xs = []) ∧ Hid (k = 1 → xs = bitsOf m)) (fun _ i _ => 1 - (intOf i).toNat)
  case atStart => exact ⟨0, [], by omega, rfl, Lib.hid (Below.refl _ _), Lib.hid (World.ownsRow_nil _ _ _ _), Lib.hid (fun _ => rfl), Lib.hid (fun h => by cases h)⟩
  case round =>
    obtain ⟨k, xs, hk, rfl, HB, HO, H0, H1⟩ := hrel
    obtain ⟨oo, oc, rfl⟩ := own_form HO.out
    by_cases hlt : k = 0
    · subst hlt
      obtain rfl := H0.out rfl
      obtain ⟨cm, fm, zm⟩ := HM.out.below HB.out
      clear fm
      go_wp2_with fail
      obtain ⟨wA, hwA⟩ : ∃ wA, wA = wr := ⟨_, rfl⟩
      subst hwA
      clear cm zm H0 H1
      go_loopw [4, 6] (fun vo vm wr => ∃ (q : Nat) (xs : List Nat), vm = .int .u64 q ∧ Hid (q < 18446744073709551616) ∧ Hid (bitsOf m = xs ++ bitsOf q) ∧ Hid (Below w1.heap.size w1 wr) ∧ Hid (wr.ownsRow w1.heap.size 3 1 vo xs.length (ints xs))) (fun _ vm _ => (intOf vm).toNat)
      case atStart => exact ⟨m, [], rfl, Lib.hid hm64, Lib.hid rfl, HB, HO⟩
      case round =>
        clear HB HO
        obtain ⟨q, xs, rfl, HQ, HE, HB, HO⟩ := hrel
        obtain ⟨oo, oc, rfl⟩ := own_form HO.out
        have hxl : xs.length ≤ 64 := by have := congrArg List.length HE.out; rw [List.length_append] at this; omega
        by_cases hq : 0 < q
        · have d : ((q : Int) != 0) = true := by rw [bne_iff_ne]; omega
          obtain ⟨s1, s2, s3⟩ := bits_step hq HQ.out
          have TZ := Lib.hid (fun W (hb : Below w1.heap.size w1 W) => bits_tz q hq HQ.out W (HTB.out.below hb))
          have HS := Lib.hid s1
          have HOR := Lib.hid (show bits .and .u64 (q : Int) ((q : Int) - 1) = ((q &&& (q - 1) : Nat) : Int) by
            rw [show (q : Int) - 1 = ((q - 1 : Nat) : Int) by omega]
            exact bits_and_u64_nat _ _ HQ.out (by have := HQ.out; omega))
          have hqq : (q &&& (q - 1)) < q := Nat.lt_of_le_of_lt Nat.and_le_right (by omega)
          have hq64 := HQ.out
          generalize Lib.ctz 64 q = tz at *
          go_wp2_with fail
          refine (TZ.out _ HB.out).mono ?_
          rintro e w3 ⟨rfl, rfl⟩
          have hown := HO.out
          clear TZ
          go_wp2_with (at_builtin; refine halt_ ?_)
          unfold Halt_
          refine app_own Tryz.underlying49 int_info rfl (by decide) (by decide) rfl _ _ rfl w1.heap.size rfl (hown.alloc _) [.int .i64 (tz : Int)] rfl (heap_new1 _ _) rfl (int1 _) ?_ ?_ ?_
          · omega
          · have := HB.out.size; simp; omega
          intro a' cap' w4 hown' hgrow
          have HB4 := Lib.hid (below_own (HB.out.alloc HB.out.size _) (hown.alloc _) hgrow (HB.out.alloc HB.out.size _).size (Nat.le_refl _))
          have HO4 := Lib.hid (show w4.ownsRow w1.heap.size 3 1 (.slice a' (xs.length + 1) cap') (xs ++ [tz]).length (ints (xs ++ [tz])) by rw [List.length_append]; unfold ints at hown' ⊢; rw [List.map_append]; exact hown')
          clear hown hown' hgrow HB HO
          go_wp2_with fail
          rw [HOR.out]
          exact ⟨⟨q &&& (q - 1), xs ++ [tz], rfl, Lib.hid (by omega), Lib.hid (by rw [HE.out, HS.out, List.append_assoc]; rfl), HB4, HO4⟩, by simp [intOf]; omega⟩
        · obtain rfl : q = 0 := by omega
          have HXS := Lib.hid (show xs = bitsOf m by rw [HE.out, bitsOf_zero, List.append_nil])
          go_wp2_with fail
          exact ⟨⟨1, xs, by omega, by go_num, HB, HO, Lib.hid (fun h => by cases h), Lib.hid (fun _ => HXS.out)⟩, by simp [intOf]⟩
    · obtain rfl : k = 1 := by omega
      have HXS := Lib.hid (H1.out rfl)
      go_wp2
      go_ret
      exact ⟨_, rfl, by rw [← HXS.out]; exact HO.out, HB.out⟩
end Go.Proofs.YtnnieegddbcfcaaGreatDoor
namespace Go.Proofs.YtnnieegddbcfcaaGreatDoor
open Go.RowKit Go.Shelf

theorem made_one (z : Value) (n : Nat) : madeCells #[z] n = arrOf n (fun _ => z) := by
  apply Array.ext_getElem?
  intro j
  rw [arrOf_get]
  unfold madeCells
  by_cases h : j < n
  · rw [if_pos h]; simp [h, Nat.mod_one]
  · rw [if_neg h]; simp [h]
theorem set_within (n most : Nat) (w : World) (h : n ≤ most) : Calls Tryz.prog 184 #[.int .i64 n, .int .i64 most] w fun e w' => e = .returned (.int .i64 n) ∧ w' = w := by
  go_enter Tryz.func184, Tryz.ntmps184
  go_wp2
  go_ret
  refine ⟨?_, rfl⟩
  show Ending.returned (.int .i64 (max 0 (min (n : Int) (most : Int)))) = _
  congr 2
  omega
theorem u64s_info : (Tryz.prog.info? 154).map (fun i => (i.zero, i.size, i.bytes)) = some (some (.slice none 0 0), 1, 24) := by kernel_rfl
theorem u64_info : (Tryz.prog.info? 156).map (fun i => (i.zero, i.size, i.bytes)) = some (some (.int .u64 0), 1, 8) := by kernel_rfl
/-- make of n one-cell things. -/
theorem run_mk (t e : TypeId) (z : Value) (bytes : Nat) (ht : Tryz.prog.underlying t = some (.slice e)) (hinfo : (Tryz.prog.info? e).map (fun i => (i.zero, i.size, i.bytes)) = some (some z, 1, bytes)) (hz : z.cells = #[z]) (hb : bytes ≤ 100) (n : Nat) (hn : n ≤ 5000) (W : World) :
    (Instr.makeSlice t (.int .i64 (n : Int)) (.int .i64 (n : Int))).run Tryz.prog W = .ok (.slice (some ⟨W.heap.size, 0, none⟩) n n) (W.alloc (.cells (arrOf n (fun _ => z)) e)) := by
  obtain ⟨i, hi, hz0, hz1, hz2⟩ := info_parts hinfo
  have hm : bytes * n ≤ 100 * 5000 := Nat.mul_le_mul hb hn
  have h := run_makeSlice (P := Tryz.prog) W t e i z ht hi hz0 .i64 .i64 (n : Int) (n : Int) (by omega) (by omega) (by rw [hz1]; simp; omega) (by rw [hz2, ← Int.natCast_mul]; omega) (by omega)
  rw [hz1, hz, Int.toNat_natCast, Nat.mul_one, made_one] at h
  exact h
set_option maxRecDepth 100000 in
set_option maxHeartbeats 4000000 in
theorem set_New (rows cols : Nat) (w : World) (hr : rows ≤ 4096) (hc : 0 < cols ∨ rows = 0) (c64 : cols ≤ 64) :
    Calls Tryz.prog 137 #[.int .i64 rows, .int .i64 cols] w fun e w' => ∃ F W0 g0, e = .returned (.pointer (some ⟨F, 0, none⟩)) ∧ FamAt w' F W0 g0 rows cols [] ∧ Below w.heap.size w w' ∧ w.heap.size ≤ F ∧ g0 + rows ≤ w'.heap.size := by
  have S1 := Lib.hid (fun W => set_within rows 5000 W (by omega))
  have S2 := Lib.hid (fun W => set_within cols 1000 W (by omega))
  have hmk := fun W => run_mk 175 154 (.slice none 0 0) 24 Tryz.underlying175 u64s_info rfl (by decide) rows (by omega) W
  go_enter Tryz.func137, Tryz.ntmps137
  go_wp2_with fail
  refine (S1.out _).mono ?_
  rintro e w1 ⟨rfl, rfl⟩
  go_wp2_with fail
  refine (S2.out _).mono ?_
  rintro e w1 ⟨rfl, rfl⟩
  go_wp2_with fail
  have hwr : ∀ j : Nat, j < rows → IntKind.i64.wrap ((j : Int) + 1) = (j : Int) + 1 := fun j hj => Go.IntWalk.i64_in _ (by omega)
  have hc1 : IntKind.i64.wrap ((cols : Int) + 64) = (cols : Int) + 64 := Go.IntWalk.i64_in _ (by omega)
  have hc2 : IntKind.i64.wrap ((cols : Int) + 64 - 1) = (cols : Int) + 63 := by rw [show (cols : Int) + 64 - 1 = (cols : Int) + 63 by omega]; exact Go.IntWalk.i64_in _ (by omega)
  have hmk1 : ∀ W : World, (Instr.makeSlice 154 (.int .i64 1) (.int .i64 1)).run Tryz.prog W = .ok (.slice (some ⟨W.heap.size, 0, none⟩) 1 1) (W.alloc (.cells #[.int .u64 0] 156)) :=
    fun W => run_mk 154 156 (.int .u64 0) 8 Tryz.underlying154 u64_info rfl (by decide) 1 (by omega) W
  go_loopw [25] (fun i wr => ∃ n : Nat, n ≤ rows ∧ i = .int .i64 n ∧ Hid (wr.heap.size = w1.heap.size + 2 + n) ∧ Hid (Below w1.heap.size w1 wr) ∧
      Hid (Blk wr w1.heap.size #[.int .i64 rows, .int .i64 cols, .slice (some ⟨w1.heap.size + 1, 0, none⟩) rows rows, .int .i64 0]) ∧
      Hid (Blk wr (w1.heap.size + 1) (arrOf rows (fun j => if j < n then .slice (some ⟨w1.heap.size + 2 + j, 0, none⟩) 1 1 else .slice none 0 0))) ∧
      Hid (∀ j, j < n → Blk wr (w1.heap.size + 2 + j) #[.int .u64 0])) (fun i _ => rows - (intOf i).toNat)
  case atStart =>
    refine ⟨0, by omega, rfl, Lib.hid (by simp), Lib.hid (((Below.refl _ _).alloc (Nat.le_refl _) _).alloc (by simp) _), Lib.hid ((Blk.new w1 _ _).alloc _), Lib.hid ?_, Lib.hid (fun j hj => absurd hj (by omega))⟩
    have h := Blk.new (w1.alloc (.cells #[.int .i64 rows, .int .i64 cols, .slice (some ⟨w1.heap.size + 1, 0, none⟩) rows rows, .int .i64 0] 178)) (arrOf rows fun _ => .slice none 0 0) 154
    have e : (arrOf rows fun j => if j < 0 then Value.slice (some ⟨w1.heap.size + 2 + j, 0, none⟩) 1 1 else .slice none 0 0) = arrOf rows fun _ => .slice none 0 0 := arrOf_congr (fun i _ => if_neg (by omega))
    rw [e]
    simpa using h
  case round =>
    obtain ⟨n, hn, rfl, HS, HB, HF, HW, HG⟩ := hrel
    by_cases hlt : n < rows
    · have hcp : 0 < cols := hc.resolve_right (by omega)
      have hc3 : IntKind.i64.wrap (((cols : Int) + 63) / 64) = 1 := by rw [show ((cols : Int) + 63) / 64 = 1 by omega]; rfl
      have hc4 : IntKind.i64.wrap (((cols : Int) + 63).tdiv 64) = 1 := by rw [Int.tdiv_eq_ediv_of_nonneg (by omega)]; exact hc3
      obtain ⟨cf, ff, zf⟩ := HF.out
      go_wp2_with fail
      refine wp_region_held_drew (S := (fun W => ∀ o, W.cell? ⟨w1.heap.size, o, none⟩ = (#[.int .i64 rows, .int .i64 cols, .slice (some ⟨w1.heap.size + 1, 0, none⟩) rows rows, .int .i64 0] : Array Value)[o]?)) (by kernel_rfl) (by intro o; rw [World.cell?_drew]; exact cf o) (fun hHeld => ?_)
      obtain ⟨wk, hwk⟩ : ∃ W, W = wr.drew := ⟨_, rfl⟩
      have HBk : Below wr.heap.size wr wk := by rw [hwk]; exact below_drew (Below.refl _ _)
      rw [← hwk] at hHeld ⊢
      have hks : wk.heap.size = w1.heap.size + 2 + n := by rw [hwk]; exact HS.out
      clear hwk
      have HF2 := HF.out.below HBk
      have HW2 := HW.out.below HBk
      obtain ⟨cf, ff, zf⟩ := HF2
      (refine held_yes (v := ?_) 0 rfl (by kernel_rfl) (by kernel_rfl) (by kernel_rfl) (fun _ _ _ h => h) (by rfl) (by assumption) ?_ ?_; rotate_left; (focus ((intro w hSw); (try dsimp only at hSw); go_simp; (try with_reducible rfl))); (try simp only [Act.put, List.setIfInBounds_toArray, List.set_cons_zero, List.set_cons_succ])); (refine held_yes (v := ?_) 1 rfl (by kernel_rfl) (by kernel_rfl) (by kernel_rfl) (fun _ _ _ h => h) (by rfl) (by assumption) ?_ ?_; rotate_left; (focus ((intro w hSw); (try dsimp only at hSw); go_simp; (try with_reducible rfl))); (try simp only [Act.put, List.setIfInBounds_toArray, List.set_cons_zero, List.set_cons_succ])); (refine held_yes (v := ?_) 2 rfl (by kernel_rfl) (by kernel_rfl) (by kernel_rfl) (fun _ _ _ h => h) (by rfl) (by assumption) ?_ ?_; rotate_left; (focus ((intro w hSw); (try dsimp only at hSw); go_simp; (try with_reducible rfl))); (try simp only [Act.put, List.setIfInBounds_toArray, List.set_cons_zero, List.set_cons_succ])); (refine held_yes (v := ?_) 3 rfl (by kernel_rfl) (by kernel_rfl) (by kernel_rfl) (fun _ _ _ h => h) (by rfl) (by assumption) ?_ ?_; rotate_left; (focus ((intro w hSw); (try dsimp only at hSw); go_simp; (try with_reducible rfl))); (try simp only [Act.put, List.setIfInBounds_toArray, List.set_cons_zero, List.set_cons_succ])); (refine held_yes (v := ?_) 4 rfl (by kernel_rfl) (by kernel_rfl) (by kernel_rfl) (fun _ _ _ h => h) (by rfl) (by assumption) ?_ ?_; rotate_left; (focus ((intro w hSw); (try dsimp only at hSw); go_simp; (try with_reducible rfl))); (try simp only [Act.put, List.setIfInBounds_toArray, List.set_cons_zero, List.set_cons_succ])); (refine held_yes (v := ?_) 5 rfl (by kernel_rfl) (by kernel_rfl) (by kernel_rfl) (fun _ _ _ h => h) (by rfl) (by assumption) ?_ ?_; rotate_left; (focus ((intro w hSw); (try dsimp only at hSw); go_simp; (try with_reducible rfl))); (try simp only [Act.put, List.setIfInBounds_toArray, List.set_cons_zero, List.set_cons_succ])); (refine held_yes (v := ?_) 6 rfl (by kernel_rfl) (by kernel_rfl) (by kernel_rfl) (fun _ _ _ h => h) (by rfl) (by assumption) ?_ ?_; rotate_left; (focus ((intro w hSw); (try dsimp only at hSw); go_simp; (try with_reducible rfl))); (try simp only [Act.put, List.setIfInBounds_toArray, List.set_cons_zero, List.set_cons_succ])); (refine held_yes (v := ?_) 7 rfl (by kernel_rfl) (by kernel_rfl) (by kernel_rfl) (fun _ _ _ h => h) (by rfl) (by assumption) ?_ ?_; rotate_left; (focus ((intro w hSw); (try dsimp only at hSw); go_simp; (try with_reducible rfl))); (try simp only [Act.put, List.setIfInBounds_toArray, List.set_cons_zero, List.set_cons_succ])); (refine held_yes (v := ?_) 8 rfl (by kernel_rfl) (by kernel_rfl) (by kernel_rfl) (fun _ _ _ h => h) (by rfl) (by assumption) ?_ ?_; rotate_left; (focus ((intro w hSw); (try dsimp only at hSw); go_simp; (try with_reducible rfl))); (try simp only [Act.put, List.setIfInBounds_toArray, List.set_cons_zero, List.set_cons_succ])); (refine held_yes (v := ?_) 9 rfl (by kernel_rfl) (by kernel_rfl) (by kernel_rfl) (fun _ _ _ h => h) (by rfl) (by assumption) ?_ ?_; rotate_left; (focus ((intro w hSw); (try dsimp only at hSw); go_simp; (try with_reducible rfl))); (try simp only [Act.put, List.setIfInBounds_toArray, List.set_cons_zero, List.set_cons_succ])); (refine held_yes (v := ?_) 10 rfl (by kernel_rfl) (by kernel_rfl) (by kernel_rfl) (fun _ _ _ h => h) (by rfl) (by assumption) ?_ ?_; rotate_left; (focus ((intro w hSw); (try dsimp only at hSw); go_simp; (try with_reducible rfl))); (try simp only [Act.put, List.setIfInBounds_toArray, List.set_cons_zero, List.set_cons_succ])); (refine held_yes (v := ?_) 11 rfl (by kernel_rfl) (by kernel_rfl) (by kernel_rfl) (fun _ _ _ h => h) (by rfl) (by assumption) ?_ ?_; rotate_left; (focus ((intro w hSw); (try dsimp only at hSw); go_simp; (try with_reducible rfl))); (try simp only [Act.put, List.setIfInBounds_toArray, List.set_cons_zero, List.set_cons_succ]))
      (refine held_call 12 rfl (by kernel_rfl) (fun K hK => ?_); go_simp)
      have HB3 : Below wk.heap.size wk (wk.alloc (.cells #[.int .u64 0] 156)) := (Below.refl _ _).alloc (Nat.le_refl _) _
      have HW3 := HW2.below HB3
      have HF3 := HF.out.below (HBk.trans (HB3.mono HBk.size))
      have HN3 : Blk (wk.alloc (.cells #[.int .u64 0] 156)) (w1.heap.size + 2 + n) #[.int .u64 0] := by rw [← hks]; exact Blk.new _ _ _
      have HG3 := Lib.hid (fun j hj => (HG.out j hj).below (HBk.trans (HB3.mono HBk.size)))
      have hk3 : (wk.alloc (.cells #[.int .u64 0] 156)).heap.size = w1.heap.size + 2 + (n + 1) := by simp; omega
      have HB4 := Lib.hid (HB.out.trans ((HBk.trans (HB3.mono HBk.size)).mono HB.out.size))
      generalize wk.alloc (.cells #[.int .u64 0] 156) = wm at *
      clear HB3 cf ff zf
      (refine hK.out _ _ (HF3.1) (fun hHeld => ?_); clear hK K; (try simp only [Act.put, List.setIfInBounds_toArray, List.set_cons_zero, List.set_cons_succ]))
      (refine held_yes (v := ?_) 13 rfl (by kernel_rfl) (by kernel_rfl) (by kernel_rfl) (fun _ _ _ h => h) (by rfl) (by assumption) ?_ ?_; rotate_left; (focus ((intro w hSw); (try dsimp only at hSw); go_simp; (try with_reducible rfl))); (try simp only [Act.put, List.setIfInBounds_toArray, List.set_cons_zero, List.set_cons_succ]))
      have cwn := HW3.1 n
      rw [arrOf_get, if_pos hlt, if_neg (Nat.lt_irrefl n)] at cwn
      have fwn := HW3.2.1 n
      (refine held_call 14 rfl (by kernel_rfl) (fun K hK => ?_); go_simp)
      have HW5 := HW3.put (o := n) (v := .slice (some ⟨w1.heap.size + 2 + n, 0, none⟩) 1 1) (by rw [arrOf_size]; exact hlt)
      rw [arrOf_set _ _ _ _ hlt] at HW5
      have e5 : (arrOf rows fun j => if j = n then Value.slice (some ⟨w1.heap.size + 2 + n, 0, none⟩) 1 1 else if j < n then Value.slice (some ⟨w1.heap.size + 2 + j, 0, none⟩) 1 1 else .slice none 0 0) = arrOf rows fun j => if j < n + 1 then Value.slice (some ⟨w1.heap.size + 2 + j, 0, none⟩) 1 1 else .slice none 0 0 := arrOf_congr (fun i _ => by
        by_cases h1 : i = n
        · subst h1; rw [if_pos rfl, if_pos (by omega)]
        · rw [if_neg h1]
          by_cases h2 : i < n
          · rw [if_pos h2, if_pos (by omega)]
          · rw [if_neg h2, if_neg (by omega)])
      rw [e5] at HW5
      have HF5 := HF3.far (g := w1.heap.size + 1) (o := n) (v := .slice (some ⟨w1.heap.size + 2 + n, 0, none⟩) 1 1) (by omega)
      have HG5 := Lib.hid (show ∀ j, j < n + 1 → Blk (wm.setCell ⟨w1.heap.size + 1, n, none⟩ (.slice (some ⟨w1.heap.size + 2 + n, 0, none⟩) 1 1)) (w1.heap.size + 2 + j) #[.int .u64 0] from fun j hj => by
        by_cases h1 : j = n
        · subst h1; exact HN3.far (by omega)
        · exact (HG3.out j (by omega)).far (by omega))
      have HB5 := Lib.hid (below_put (o := n) (v := .slice (some ⟨w1.heap.size + 2 + n, 0, none⟩) 1 1) HB4.out (show w1.heap.size ≤ w1.heap.size + 1 by omega))
      have hk5 : (wm.setCell ⟨w1.heap.size + 1, n, none⟩ (.slice (some ⟨w1.heap.size + 2 + n, 0, none⟩) 1 1)).heap.size = w1.heap.size + 2 + (n + 1) := by simpa using hk3
      generalize wm.setCell ⟨w1.heap.size + 1, n, none⟩ (.slice (some ⟨w1.heap.size + 2 + n, 0, none⟩) 1 1) = wn at *
      (refine hK.out _ _ (HF5.1) (fun hHeld => ?_); clear hK K; (try simp only [Act.put, List.setIfInBounds_toArray, List.set_cons_zero, List.set_cons_succ]))
      refine wpAnyH_done (by kernel_rfl) ?_ _
      have HW5 := Lib.hid HW5
      have HF5 := Lib.hid HF5
      clear HW3 HF3 HN3 HG3 HB4 cwn fwn hks hk3 HW2 HBk hHeld
      go_wp2_with fail
      exact ⟨⟨n + 1, by omega, by go_num, Lib.hid hk5, HB5, HF5, HW5, HG5⟩, by simp [intOf]; omega⟩
    · obtain rfl : n = rows := by omega
      have HWE := Lib.hid (show Blk wr (w1.heap.size + 1) (arrOf n (fun i => .slice (some ⟨w1.heap.size + 2 + i, 0, none⟩) 1 1)) by
        have e : (arrOf n fun j => if j < n then Value.slice (some ⟨w1.heap.size + 2 + j, 0, none⟩) 1 1 else .slice none 0 0) = arrOf n (fun i => .slice (some ⟨w1.heap.size + 2 + i, 0, none⟩) 1 1) := arrOf_congr (fun i hi => if_pos hi)
        rw [← e]; exact HW.out)
      clear HW hmk hmk1
      go_wp2
      go_ret
      exact ⟨w1.heap.size, w1.heap.size + 1, w1.heap.size + 2, rfl, ⟨HF.out, HWE.out, fun i hi => ⟨0, HG.out i hi, wrdOf.nil i⟩, by omega, by omega, c64, hr, (fun f hf => by cases hf), List.nodup_nil⟩, HB.out, Nat.le_refl _, by have := HS.out; omega⟩
end Go.Proofs.YtnnieegddbcfcaaGreatDoor
namespace Go.Proofs.YtnnieegddbcfcaaGreatDoor
open Go.RowKit Go.Shelf

theorem own_base {w : World} {base base' size n : Nat} {e : TypeId} {v : Value} {xs : List Value} (h : w.ownsRow base e size v n xs) (hb : base' ≤ base) : w.ownsRow base' e size v n xs := by
  obtain ⟨h1, h2⟩ := h
  refine ⟨h1, ?_⟩
  rcases h2 with h2 | ⟨g, cap, cur, rfl, h3, h4⟩
  · exact .inl h2
  · exact .inr ⟨g, cap, cur, rfl, Nat.le_trans hb h3, h4⟩
/-- slices.Clone of a row of texts. -/
theorem str_CloneO (v : Value) (l : List ByteArray) (w : World) (h : SlA w 1 v l.length (strs l)) (hl : l.length ≤ 100000) :
    Calls Tryz.prog 96 #[v] w fun e w' => ∃ v', e = .returned v' ∧ w'.ownsRow w.heap.size 9 1 v' l.length (strs l) ∧ Below w.heap.size w w' := by
  by_cases h0 : 0 < l.length
  · obtain ⟨b1, o1, c1, rfl, hc1, hm1, hb1, hx1⟩ := h.pos h0
    refine (Tryz.slices_Clone_string b1 o1 l.length c1 l w (Nat.le_refl _) (by omega) (fun j hj => by
      rw [hx1 j _ (strs_get hj), List.getD_eq_getElem?_getD, List.getElem?_eq_getElem hj]; rfl)).mono ?_
    rintro e w' ⟨v', he, hown, _, hb⟩
    rw [List.take_of_length_le (Nat.le_refl _)] at hown
    exact ⟨v', he, hown, hb⟩
  · obtain rfl : l = [] := List.eq_nil_of_length_eq_zero (by omega)
    obtain ⟨ao, ac, rfl⟩ := h.form
    cases ao with
    | none =>
      refine (Tryz.slices_Clone_string_nil _ ac w).mono ?_
      rintro e w' ⟨he, rfl⟩
      exact ⟨_, he, World.ownsRow_nil _ _ _ _, Below.refl _ _⟩
    | some a =>
      refine (Tryz.slices_Clone_string_zero a ac w).mono ?_
      rintro e w' ⟨v', he, hown, _, hb⟩
      exact ⟨v', he, hown, hb⟩
theorem rl_GrowO (n : Nat) (w : World) (hn : n ≤ 2000) : Calls Tryz.prog 223 #[.slice none 0 0, .int .i64 n] w fun e w' =>
    ∃ a cap, e = .returned (.slice a 0 cap) ∧ w'.ownsRow w.heap.size 28 2 (.slice a 0 cap) 0 [] ∧ Below w.heap.size w w' := by
  by_cases h0 : 0 < n
  · obtain ⟨inf, hinf, hz0, hz1, hz2⟩ := info_parts rl_info'
    refine (Any8.slices_Grow_grow Tryz.growR inf _ hinf hz0 (by omega) none 0 0 n [] w (Nat.le_refl _) (by omega) (by rw [hz2]; omega) (by omega) (by simp) (fun _ => rfl) (fun a h => by cases h)).mono ?_
    rintro e w' ⟨rfl, rfl⟩
    have hge := grownCap_ge w (0 + n) 0 28
    have hle := grownCap_le_maxLen w (0 + n) 0 28 (by simp only [maxLen]; omega)
    refine ⟨_, _, rfl, World.ownsRow_made w.drew _ _ (Nat.le_refl _) hle ?_, (below_drew (Below.refl _ _)).alloc (Nat.le_refl _) _⟩
    rw [Nat.zero_add] at hge hle ⊢
    simp [Builtin.zeroCells, Value.cells]
    rw [show Tryz.growR_ren.t 25 = 28 from rfl]
    omega
  · obtain rfl : n = 0 := by omega
    refine (Any8.slices_Grow_room Tryz.growR none 0 0 0 w (Nat.le_refl _) (by omega) (by omega) (by omega)).mono ?_
    rintro e w' ⟨rfl, rfl⟩
    exact ⟨_, _, rfl, World.ownsRow_nil _ _ _ _, Below.refl _ _⟩
set_option maxRecDepth 100000 in
set_option maxHeartbeats 4000000 in
/-- slices.Concat of two rows. -/
theorem rl_ConcatO (g : Nat) (va vb : Value) (l m : List Rl) (w : World) (hg : Blk w g #[va, vb]) (ha : SlA w 2 va l.length (l.flatMap Rl.cells)) (hb : SlA w 2 vb m.length (m.flatMap Rl.cells)) (hl : l.length ≤ 1000) (hm : m.length ≤ 1000) :
    Calls Tryz.prog 192 #[.slice (some ⟨g, 0, none⟩) 2 2] w fun e w' => ∃ v, e = .returned v ∧ w'.ownsRow w.heap.size 28 2 v (l ++ m).length ((l ++ m).flatMap Rl.cells) ∧ Below w.heap.size w w' := by
  have HA := Lib.hid ha
  have HB := Lib.hid hb
  have HG := Lib.hid hg
  obtain ⟨ao, ac, hva⟩ := ha.form
  obtain ⟨bo, bc, hvb⟩ := hb.form
  subst hva hvb
  have GR : Hid (∀ W, Calls Tryz.prog 223 #[.slice none 0 0, .int .i64 ((l.length : Int) + (m.length : Int))] W fun e w' =>
      ∃ a cap, e = .returned (.slice a 0 cap) ∧ w'.ownsRow W.heap.size 28 2 (.slice a 0 cap) 0 [] ∧ Below W.heap.size W w') := Lib.hid (fun W => by
    have h := rl_GrowO (l.length + m.length) W (by omega)
    rw [Int.natCast_add] at h
    exact h)
  have c0 : w.cell? ⟨g, 0, none⟩ = some (.slice ao l.length ac) := (hg.1 0).trans rfl
  have c1 : w.cell? ⟨g, 1, none⟩ = some (.slice bo m.length bc) := (hg.1 1).trans rfl
  have hgw : g < w.heap.size := hg.2.2
  clear ha hb hg
  go_enter Tryz.func192, Tryz.ntmps192
  go_wp2
  go_loop [3, 11] (fun n i => (n = .int .i64 0 ∧ i = .int .i64 0) ∨ (n = .int .i64 l.length ∧ i = .int .i64 1) ∨ (n = .int .i64 ((l.length : Int) + (m.length : Int)) ∧ i = .int .i64 2)) (fun _ i => 2 - (intOf i).toNat)
  case atStart => exact .inl ⟨rfl, rfl⟩
  case round =>
    obtain ⟨rfl, rfl⟩ | ⟨rfl, rfl⟩ | ⟨rfl, rfl⟩ := hrel
    · have d : decide ((l.length : Int) < 0) = false := by (rw [decide_eq_false_iff_not]; omega)
      have hw : IntKind.i64.wrap ((0 : Int) + (l.length : Int)) = (l.length : Int) := by rw [Int.zero_add]; exact Go.IntWalk.i64_in _ (by omega)
      go_wp2
      exact ⟨.inr (.inl ⟨rfl, rfl⟩), by simp [intOf]⟩
    · have d : decide ((l.length : Int) + (m.length : Int) < 0) = false := by (rw [decide_eq_false_iff_not]; omega)
      have hw : IntKind.i64.wrap ((l.length : Int) + (m.length : Int)) = (l.length : Int) + (m.length : Int) := Go.IntWalk.i64_in _ (by omega)
      go_wp2
      exact ⟨.inr (.inr ⟨rfl, rfl⟩), by simp [intOf]⟩
    · go_wp2_with fail
      refine (GR.out _).mono ?_
      rintro e w1 ⟨a1, cap1, rfl, hown, hb1⟩
      have HO := Lib.hid hown
      have HB1 := Lib.hid hb1
      clear hown hb1 c0 c1 hgw
      go_wp2_with fail
      go_loopw [6, 27] (fun vo i wr => Hid (Below w.heap.size w wr) ∧ ((i = .int .i64 0 ∧ Hid (wr.ownsRow w.heap.size 28 2 vo 0 [])) ∨ (i = .int .i64 1 ∧ Hid (wr.ownsRow w.heap.size 28 2 vo l.length (l.flatMap Rl.cells))) ∨ (i = .int .i64 2 ∧ Hid (wr.ownsRow w.heap.size 28 2 vo (l.length + m.length) ((l ++ m).flatMap Rl.cells))))) (fun _ i _ => 2 - (intOf i).toNat)
      case atStart => exact ⟨HB1, .inl ⟨rfl, HO⟩⟩
      case round =>
        obtain ⟨HBR, ⟨rfl, HOR⟩ | ⟨rfl, HOR⟩ | ⟨rfl, HOR⟩⟩ := hrel
        · have hbk := HG.out.below HBR.out
          have c0 : wr.cell? ⟨g, 0, none⟩ = some (.slice ao l.length ac) := (hbk.1 0).trans rfl
          have hgw : g < wr.heap.size := hbk.2.2
          obtain ⟨xo, xc, rfl⟩ := own_form HOR.out
          clear hbk
          go_wp2_with (at_builtin; refine halt_ ?_)
          unfold Halt_
          refine app_row Tryz.underlying23 rl_info' rfl (by decide) (by decide) rfl _ _ rfl w.heap.size rfl HOR.out rfl (HA.out.below HBR.out) (rls_one _) (by omega) HBR.out.size ?_
          intro a' cap' w3 hown' hgrow
          have HO3 := Lib.hid (show w3.ownsRow w.heap.size 28 2 (.slice a' l.length cap') l.length (l.flatMap Rl.cells) by simpa using hown')
          have HB3 := Lib.hid (below_own HBR.out HOR.out hgrow HBR.out.size (Nat.le_refl _))
          clear hown' hgrow
          go_wp2_with fail
          exact ⟨⟨HB3, .inr (.inl ⟨rfl, HO3⟩)⟩, by simp [intOf]⟩
        · have hbk := HG.out.below HBR.out
          have c1 : wr.cell? ⟨g, 1, none⟩ = some (.slice bo m.length bc) := (hbk.1 1).trans rfl
          have hgw : g < wr.heap.size := hbk.2.2
          obtain ⟨xo, xc, rfl⟩ := own_form HOR.out
          clear hbk
          go_wp2_with (at_builtin; refine halt_ ?_)
          unfold Halt_
          refine app_row Tryz.underlying23 rl_info' rfl (by decide) (by decide) rfl _ _ rfl w.heap.size rfl HOR.out rfl (HB.out.below HBR.out) (rls_one _) (by omega) HBR.out.size ?_
          intro a' cap' w3 hown' hgrow
          have HO3 := Lib.hid (show w3.ownsRow w.heap.size 28 2 (.slice a' (l.length + m.length) cap') (l.length + m.length) ((l ++ m).flatMap Rl.cells) by rw [rl_flat]; exact hown')
          have HB3 := Lib.hid (below_own HBR.out HOR.out hgrow HBR.out.size (Nat.le_refl _))
          clear hown' hgrow
          go_wp2_with fail
          exact ⟨⟨HB3, .inr (.inr ⟨rfl, HO3⟩)⟩, by simp [intOf]⟩
        · obtain ⟨xo, xc, rfl⟩ := own_form HOR.out
          go_wp2_with fail
          go_ret
          exact ⟨_, rfl, by rw [List.length_append]; exact HOR.out, HBR.out⟩
end Go.Proofs.YtnnieegddbcfcaaGreatDoor
