/- A block that keeps its form: its cells are as many, of the same type, as they were. slices.Compact at rows of statements. syn.Sort: any row of statements in order, each once. Functions of package slices at rows of statements: Index, Contains, Equal. Package state: its small functions, at rows of statements. Package state: Minus and About. slices.Concat at two rows of statements, and state.Union. The reference's Print; the law's Light. Package state: Is; the laws' Light and lives. Rows of roles: whether one is among them. Package state: MayCome and MayGo; the law's lives; the reference's Of. Policies in memory, and whether they are light. One block of a call's own that stands whole. Whether a policy is light: crupperlaw05.Light. Rows of texts: crupperref01.Has and Put, as far as that some bool, and some row, comes back. crupperref05.Roles: some row of roles comes back (printed by gen_roles.py). crupperref05.Prins, Names, Fits: some row of texts, some bool comes back (printed by gen_prins.py). crupperref05.Fits, crupperref04.Right, crupperref03.SameRoles: some bool comes back. crupperref04.Right: some bool comes back. crupperref05.SortRoles: the rows of roles in order that it makes (printed by gen_rlsort.py out of RefSort). crupperref03.SameRoles: whether two rows of roles are one. crupperref10.Of. The statement StateRows: the walk of the law. A region that draws its order, walked by hand: an operation that is taken first, and one whose guard says no. crupperref05.Right: some bool comes back; if it is true, all statements may be. Plain laws of rows of texts in order, each once (printed by gen_strlaw.py out of RlHas, RlSort, RlLaw). Plain laws of tables: the place of a text, a role's number, a statement's rule. Texts sorted and compacted are the row of all texts in order, each once. names.New: the row of all texts, in order, each once. names.Table: Len, At, Find, All; binary search at texts. slices.BinarySearch at texts in order; names.Table.Find. table.Table: New, Prins, Links, Roles, Role. The reference's rows of texts, and numbers: crupperref01.Has, Put, New; crupperref06.Place, Role (printed by gen_reftab.py). crupperref05.Prins, Names, to the letter (printed by gen_prinsl.py). crupperref05.Fits, crupperref04.Right, crupperref05.Right, to the letter (printed by gen_right6.py). -/
import Derived.Test.YtedkkegjiikcmaaDoorPart1
import Derived.Laws.IdiomCopy
import Derived.Shelf.GgSortFunc.InsertionK
import Derived.Test.YtedkkegjiikcmaaDoorPart4
import Derived.Lib.SliceRun
import Derived.Test.YtedkkegjiikcmaaDoorShelfSort
import Derived.Shelf.SlSortCmp.NoneTotal
import Derived.Shelf.SlicesE.Clone
import Derived.Test.YtedkkegjiikcmaaDoorPart3
import Derived.Shelf.Spec.SlicesGrow
import Derived.Deep.RegionHeld3
import Derived.Deep.AppendLies
import Derived.Deep.RegionLawGrows
import Derived.Lib.SlicesCompact
import Derived.Lib.RowBridge
import Derived.Sort.Walk0
import Derived.Sort.EncStr
import Derived.Test.YtedkkegjiikcmaaDoorShelf
import Derived.Sort.OwnSorted
import Derived.Sort.Grow
import Derived.Lib.OwnBridge
namespace Go.Proofs.YtedkkegjiikcmaaDoor
open Go.RowKit Go.Shelf Go.Lib Go.Sort

end Go.Proofs.YtedkkegjiikcmaaDoor
namespace Go.Proofs.YtedkkegjiikcmaaDoor
open Go.RowKit Go.Shelf

theorem grown_set {w w' : World} {b i : Nat} {v : Value} (h : w.grownBy w' (some b)) : w.grownBy (w'.setCell ⟨b, i, none⟩ v) (some b) := by
  refine ⟨h.os, h.tape, h.output, by simpa using h.size, fun k hk hne => ?_⟩
  have hkb : ¬ b = k := fun e => hne (by rw [e])
  rw [← h.block k hk hne]
  simp [World.setCell, Array.getElem?_modify, hkb]
theorem grown_sets {w : World} {b : Nat} : ∀ (vs : List Value) (o : Nat) (w' : World), w.grownBy w' (some b) → w.grownBy (w'.setCells b o vs) (some b)
  | [], _, _, h => h
  | v :: vs, o, w', h => by
    rw [World.setCells]
    exact grown_sets vs (o + 1) _ (grown_set h)
end Go.Proofs.YtedkkegjiikcmaaDoor
namespace Go.Proofs.YtedkkegjiikcmaaDoor
open Go.RowKit Go.Shelf Go.Lib Go.Sort

end Go.Proofs.YtedkkegjiikcmaaDoor
namespace Go.Proofs.YtedkkegjiikcmaaDoor
open Go.RowKit Go.Shelf

end Go.Proofs.YtedkkegjiikcmaaDoor
namespace Go.Proofs.YtedkkegjiikcmaaDoor
open Go.RowKit Go.Shelf

end Go.Proofs.YtedkkegjiikcmaaDoor
namespace Go.Proofs.YtedkkegjiikcmaaDoor
open Go.RowKit Go.Shelf

end Go.Proofs.YtedkkegjiikcmaaDoor
namespace Go.Proofs.YtedkkegjiikcmaaDoor
open Go.RowKit Go.Shelf

theorem app_row {P : Program} {w : World} {ops : Array Oper} {rest : List Oper} {o : Oper} {a : Act} {Q : Exit → Act → World → Prop} {t e : TypeId} {z : Value} {size bytes : Nat}
    (ht : P.underlying t = some (.slice e)) (hinfo : (P.info? e).map (fun i => (i.zero, i.size, i.bytes)) = some (some z, size, bytes)) (hzs : z.cells.size = size) (hsz : 0 < size) (hby : bytes ≤ 1000)
    (hgd : o.guard = none) (s x : Operand) (ho : o.op = .call { callee := .builtin .append, args := #[s, x], argTypes := #[t, t] })
    (B : Nat) {v : Value} {n : Nat} {xs : List Value} (hs : a.eval s = v) (hown : w.ownsRow B e size v n xs)
    {va : Value} {m : Nat} {ys : List Value} (hx : a.eval x = va) (ha : SlA w size va m ys) (h1 : ∀ u ∈ ys, u.oneCell' = true)
    (hn : n + m ≤ 100000000000) (hB : B ≤ w.heap.size)
    (h : ∀ a' cap' w', w'.ownsRow B e size (.slice a' (n + m) cap') (n + m) (xs ++ ys) → w.grownBy w' v.ownBlock → wpList P ops Q rest (a.put o.dst (.slice a' (n + m) cap')) w') : wpList P ops Q (o :: rest) a w := by
  obtain ⟨i, hi, hz0, hz1, hz2⟩ := info_parts hinfo
  by_cases h0 : 0 < m
  · obtain ⟨b, off, c, rfl, hc, hm, hb, hcell⟩ := ha.pos h0
    have hl : ys.length = m * size := by
      rcases ha with ha | ⟨_, rfl, rfl⟩
      · exact ha.len
      · simp
    have hbb : (n + m) * bytes ≤ 140737488355328 := Nat.le_trans (Nat.mul_le_mul (Nat.le_refl _) hby) (by omega)
    refine wpList_append_own _ hgd s x t ho B e i z size bytes ht hi hz0 hz1 hz2 hzs hsz v n xs hs hown ⟨b, off, none⟩ m c ys hx hl ?_ h1 (by simp only [maxLen]; omega) hbb hB ?_
    · intro j u hu
      rw [addr_add]; exact hcell j u hu
    · intro v' w' h1 h2 _
      obtain ⟨a', cap', rfl⟩ := own_form h1
      exact h a' cap' w' h1 h2
  · obtain rfl : m = 0 := by omega
    have hy : ys = [] := by
      rcases ha with ha | ⟨_, _, rfl⟩
      · have := ha.len; exact List.eq_nil_of_length_eq_zero (by omega)
      · rfl
    subst hy
    obtain ⟨ax, cx, rfl⟩ := ha.form
    obtain ⟨ao, cap, rfl, hnc⟩ := own_form2 hown
    refine app_zero _ hgd s x t ho e i ht hi ao n cap hnc hs ax cx hx ?_
    exact h ao cap w (by rw [List.append_nil]; exact hown) ⟨rfl, rfl, rfl, Nat.le_refl _, fun _ _ _ => rfl⟩

end Go.Proofs.YtedkkegjiikcmaaDoor
namespace Go.Proofs.YtedkkegjiikcmaaDoor
open Go.RowKit Go.Shelf

theorem Rl.le.mono {s : Rl} {m n : Nat} (h : s.le m) (hmn : m ≤ n) : s.le n := ⟨Nat.le_trans h.1 hmn, Nat.le_trans h.2 hmn⟩
end Go.Proofs.YtedkkegjiikcmaaDoor
namespace Go.Proofs.YtedkkegjiikcmaaDoor
open Go.RowKit Go.Shelf

end Go.Proofs.YtedkkegjiikcmaaDoor
namespace Go.Proofs.YtedkkegjiikcmaaDoor
open Go.RowKit Go.Shelf

end Go.Proofs.YtedkkegjiikcmaaDoor
namespace Go.Proofs.YtedkkegjiikcmaaDoor
open Go.RowKit Go.Shelf

abbrev nilV : Value := .slice none 0 0
end Go.Proofs.YtedkkegjiikcmaaDoor
namespace Go.Proofs.YtedkkegjiikcmaaDoor
open Go.RowKit Go.Shelf

def strs (l : List ByteArray) : List Value := l.map .string
theorem strs_get {l : List ByteArray} {k : Nat} (hk : k < l.length) : (strs l)[k]? = some (.string l[k]) := by simp [strs, hk]

def LightS (l : List ByteArray) (e : Ending) : Prop := ∃ b, e = .returned (.bool b) ∧ (b = true → l.length ≤ 40)
set_option maxHeartbeats 1000000 in
theorem law1_Light (va : Value) (l : List ByteArray) (w : World) (ha : SlA w 1 va l.length (strs l)) (hl : ∀ s ∈ l, s.size ≤ 9223372036854775807) :
    Calls Tryd.prog 57 #[va] w fun e w' => LightS l e ∧ w' = w := by
  have HA := Lib.hid ha
  have HL := Lib.hid hl
  have hmax := ha.max
  obtain ⟨ao, cap, hva⟩ := ha.form
  subst hva
  clear ha hl
  go_enter Tryd.func57, Tryd.ntmps57
  by_cases h40 : 40 < l.length
  · have d : decide ((40 : Int) < (l.length : Int)) = true := by (rw [decide_eq_true_iff]; omega)
    go_wp2
    go_ret
    exact ⟨⟨false, rfl, fun h => by cases h⟩, rfl⟩
  have d : decide ((40 : Int) < (l.length : Int)) = false := by (rw [decide_eq_false_iff_not]; omega)
  go_wp2
  go_loop [10] (fun i => ∃ k : Nat, k ≤ l.length ∧ i = .int .i64 k) (fun i => l.length - (intOf i).toNat)
  case atStart => exact ⟨0, by omega, rfl⟩
  case round =>
    obtain ⟨k, hk, rfl⟩ := hrel
    by_cases hlt : k < l.length
    · obtain ⟨b1, o1, c1, he1, hc1, hm1, hb1, hx1⟩ := HA.out.pos (by omega)
      simp only [Value.slice.injEq, true_and] at he1
      obtain ⟨rfl, rfl⟩ := he1
      have p0 := hx1 k _ (strs_get hlt)
      have hsz := HL.out l[k] (List.getElem_mem hlt)
      clear hx1
      by_cases h : 40 < l[k].size
      · have d1 : decide ((40 : Int) < (l[k].size : Int)) = true := by (rw [decide_eq_true_iff]; omega)
        clear h
        go_wp2
        go_ret
        exact ⟨⟨false, rfl, fun h => by cases h⟩, rfl⟩
      · have d1 : decide ((40 : Int) < (l[k].size : Int)) = false := by (rw [decide_eq_false_iff_not]; omega)
        clear h
        go_wp2
        exact ⟨⟨k + 1, by omega, by go_num⟩, by simp [intOf]; omega⟩
    · go_wp2
      go_ret
      exact ⟨⟨true, rfl, fun _ => by omega⟩, rfl⟩

structure Qv where
  k : Int
  a : Rl
  b : Rl
  w : Value
instance : Inhabited Qv := ⟨⟨0, noR, noR, .slice none 0 0⟩⟩
def Qv.cells (q : Qv) : List Value := [.int .i64 q.k, .string q.a.o, .string q.a.n, .string q.b.o, .string q.b.n, q.w]
abbrev qv (q : Qv) : Value := .agg #[.int .i64 q.k, .string q.a.o, .string q.a.n, .string q.b.o, .string q.b.n, q.w]
def Qv.ok (q : Qv) (w : World) : Prop := q.a.le 9223372036854775807 ∧ q.b.le 9223372036854775807 ∧ ∃ ss : List ByteArray, SlA w 1 q.w ss.length (strs ss) ∧ ∀ s ∈ ss, s.size ≤ 9223372036854775807
def Qv.okN (q : Qv) (n : Nat) (w : World) : Prop := q.a.le 9223372036854775807 ∧ q.b.le 9223372036854775807 ∧ ∃ ss : List ByteArray, SlA w 1 q.w ss.length (strs ss) ∧ ss.length ≤ n ∧ ∀ s ∈ ss, s.size ≤ 9223372036854775807
theorem Qv.ok.below {q : Qv} {w w' : World} (h : q.ok w) (hb : Below w.heap.size w w') : q.ok w' := by
  obtain ⟨h1, h2, ss, h3, h4⟩ := h
  exact ⟨h1, h2, ss, h3.below hb, h4⟩
end Go.Proofs.YtedkkegjiikcmaaDoor
namespace Go.Proofs.YtedkkegjiikcmaaDoor
open Go.RowKit Go.Shelf

structure OneAt (w : World) (A : Array Value) (wx : World) : Prop where
  a : Blk wx w.heap.size A
  low : Below w.heap.size w wx
theorem OneAt.later {w wx w' : World} {A : Array Value} (h : OneAt w A wx) (hb : Below wx.heap.size wx w') : OneAt w A w' := ⟨h.a.below hb, h.low.trans (hb.mono h.low.size)⟩
theorem OneAt.alloc {w wx : World} {A : Array Value} (h : OneAt w A wx) (o : Obj) : OneAt w A (wx.alloc o) := h.later ((Below.refl _ _).alloc (Nat.le_refl _) o)
theorem OneAt.drew {w wx : World} {A : Array Value} (h : OneAt w A wx) : OneAt w A wx.drew := h.later (below_drew (Below.refl _ _))
end Go.Proofs.YtedkkegjiikcmaaDoor
namespace Go.Proofs.YtedkkegjiikcmaaDoor
open Go.RowKit Go.Shelf

theorem step_row {P : Program} {w : World} {ops : Array Oper} {o : Oper} {a : Act} {K : Act → World → Prop} {Q : Exit → Act → World → Prop} {E : Prop} (hgd : o.guard = none) (s x : Operand) (t : TypeId)
    (ho : o.op = .call { callee := .builtin .append, args := #[s, x], argTypes := #[t, t] })
    (base : Nat) (e : TypeId) (i : TypeInfo) (z : Value) (size bytes : Nat) (ht : P.underlying t = some (.slice e)) (hi : P.info? e = some i) (hz : i.zero = some z)
    (hsize : i.size = size) (hby : i.bytes = bytes) (hb1000 : bytes ≤ 1000) (hzs : z.cells.size = size) (hsz : 0 < size)
    (v : Value) (n : Nat) (xs : List Value) (hs : a.eval s = v) (hown : w.ownsRow base e size v n xs)
    (va : Value) (m : Nat) (ys : List Value) (hx : a.eval x = va) (ha : SlA w size va m ys) (h1 : ∀ u ∈ ys, u.oneCell' = true)
    (hnm : n + m ≤ 100000000000) (hbase : base ≤ w.heap.size)
    (h : ∀ a' cap' w', w'.ownsRow base e size (.slice a' (n + m) cap') (n + m) (xs ++ ys) → w.grownBy w' v.ownBlock → K (a.put o.dst (.slice a' (n + m) cap')) w') :
    if Region.wanted o (yielded ops a.tmps) = true then Oper.wp P o a w K Q else E := by
  by_cases h0 : 0 < m
  · obtain ⟨b, off, c, rfl, hc, hm, hb, hcell⟩ := ha.pos h0
    have hl : ys.length = m * size := by
      rcases ha with ha | ⟨_, rfl, rfl⟩
      · exact ha.len
      · simp
    have hbb : (n + m) * bytes ≤ 140737488355328 := Nat.le_trans (Nat.mul_le_mul (Nat.le_refl _) hb1000) (by omega)
    exact step_append_lies w hgd s x t ho base e i z size bytes ht hi hz hsize hby hzs hsz v n xs hs hown ⟨b, off, none⟩ m c ys hx hl (fun j u hu => by rw [addr_add]; exact hcell j u hu) h1 h0 (by simp only [maxLen]; omega) hbb hbase _ rfl
      (fun g cap w' h1 h2 _ _ => h _ cap w' h1 h2)
  · obtain rfl : m = 0 := by omega
    have hy : ys = [] := by
      rcases ha with ha | ⟨_, _, rfl⟩
      · have := ha.len; exact List.eq_nil_of_length_eq_zero (by omega)
      · rfl
    subst hy
    obtain ⟨ax, cx, rfl⟩ := ha.form
    obtain ⟨ao, cap, rfl, hnc⟩ := own_form2 hown
    refine step_zero w hgd s x t ho e i ht hi ao n cap hnc hs ax cx hx ?_
    exact h ao cap w (by rw [List.append_nil]; exact hown) ⟨rfl, rfl, rfl, Nat.le_refl _, fun _ _ _ => rfl⟩

theorem okN_back {q : Qv} {n : Nat} {w W : World} (h : q.ok w) (_ : Below w.heap.size w W) (h' : q.okN n W) : q.okN n w := by
  obtain ⟨h1, h2, ss, h3, h4⟩ := h
  obtain ⟨_, _, ss', h3', h5, _⟩ := h'
  refine ⟨h1, h2, ss, h3, ?_, h4⟩
  obtain ⟨a, c, e⟩ := h3.form
  obtain ⟨a', c', e'⟩ := h3'.form
  rw [e] at e'
  simp only [Value.slice.injEq] at e'
  omega
end Go.Proofs.YtedkkegjiikcmaaDoor
namespace Go.Proofs.YtedkkegjiikcmaaDoor
open Go.RowKit Go.Shelf

theorem strs_one (l : List ByteArray) : ∀ u ∈ strs l, u.oneCell' = true := by
  intro u hu
  obtain ⟨s, _, rfl⟩ := List.mem_map.1 hu
  rfl
theorem str1 (s : ByteArray) : ∀ u ∈ [Value.string s], u.oneCell' = true := fun u hu => by rw [List.mem_singleton.1 hu]; rfl
theorem str_info : (Tryd.prog.info? 9).map (fun i => (i.zero, i.size, i.bytes)) = some (some (.string ByteArray.empty), 1, 16) := by kernel_rfl
end Go.Proofs.YtedkkegjiikcmaaDoor
namespace Go.Proofs.YtedkkegjiikcmaaDoor
open Go.RowKit Go.Shelf

end Go.Proofs.YtedkkegjiikcmaaDoor
namespace Go.Proofs.YtedkkegjiikcmaaDoor
open Go.RowKit Go.Shelf

end Go.Proofs.YtedkkegjiikcmaaDoor
namespace Go.Proofs.YtedkkegjiikcmaaDoor
open Go.RowKit Go.Shelf

end Go.Proofs.YtedkkegjiikcmaaDoor
namespace Go.Proofs.YtedkkegjiikcmaaDoor
open Go.RowKit Go.Shelf

end Go.Proofs.YtedkkegjiikcmaaDoor
namespace Go.Proofs.YtedkkegjiikcmaaDoor
open Go.RowKit Go.Shelf
abbrev Two (w : World) (b o : Nat) (s : Rl) : Prop := w.cell? ⟨b, o, none⟩ = some (.string s.o) ∧ w.cell? ⟨b, o + 1, none⟩ = some (.string s.n)
end Go.Proofs.YtedkkegjiikcmaaDoor
namespace Go.Proofs.YtedkkegjiikcmaaDoor
open Go.RowKit Go.Shelf

end Go.Proofs.YtedkkegjiikcmaaDoor
namespace Go.Proofs.YtedkkegjiikcmaaDoor
open Go.RowKit Go.Shelf

end Go.Proofs.YtedkkegjiikcmaaDoor
namespace Go.Proofs.YtedkkegjiikcmaaDoor
open Go.RowKit Go.Shelf

end Go.Proofs.YtedkkegjiikcmaaDoor
namespace Go.Proofs.YtedkkegjiikcmaaDoor
open Go.RowKit Go.Shelf

def nthOp : List Oper → Nat → Option Oper
  | [], _ => none
  | o :: _, 0 => some o
  | _ :: r, n + 1 => nthOp r n
theorem nthOp_get : ∀ (l : List Oper) (i : Nat), l.toArray[i]? = nthOp l i
  | [], i => by simp [nthOp]
  | o :: r, 0 => by simp [nthOp]
  | o :: r, n + 1 => by have := nthOp_get r n; simpa [nthOp] using this

theorem held_yes {P : Program} {md : Region.Mode} {S : World → Prop} {Q : Exit → Act → World → Prop} {fuel : Nat} {listed : Array Bool} {a : Act} {w : World} {v : Value} {oi : Oper} {l : List Oper} (i : Nat) (hi : nthOp l i = some oi)
    (hs : Region.noSelect l.toArray = true) (hf : Region.free md l.toArray listed i = true) (hr : (Region.ready md l.toArray listed).contains i = true)
    (hQ : ∀ c a w, Q (.panic c) (a.put oi.dst v) w → Q (.panic c) a w) (hw : Region.wanted oi (yielded l.toArray a.tmps) = true) (hS : S w) (hy : ∀ w, S w → (execOp a.eval oi).run P w = .ok (.value v) w)
    (h : wpAnyH P md l.toArray Q S fuel (listed.setIfInBounds i true) (a.put oi.dst v) w) : wpAnyH P md l.toArray Q S (fuel + 1) listed a w :=
  wpAnyH_take (by rw [nthOp_get]; exact hi) hs hf hr hQ (Or.inl ⟨hw, hy⟩) hS h

theorem held_no {P : Program} {md : Region.Mode} {S : World → Prop} {Q : Exit → Act → World → Prop} {fuel : Nat} {listed : Array Bool} {a : Act} {w : World} {oi : Oper} {l : List Oper} (i : Nat) (hi : nthOp l i = some oi)
    (hs : Region.noSelect l.toArray = true) (hf : Region.free md l.toArray listed i = true) (hr : (Region.ready md l.toArray listed).contains i = true)
    (hQ : ∀ c a w, Q (.panic c) (a.put oi.dst undef) w → Q (.panic c) a w) (hw : Region.wanted oi (yielded l.toArray a.tmps) = false) (hS : S w)
    (h : wpAnyH P md l.toArray Q S fuel (listed.setIfInBounds i true) (a.put oi.dst undef) w) : wpAnyH P md l.toArray Q S (fuel + 1) listed a w :=
  wpAnyH_take (by rw [nthOp_get]; exact hi) hs hf hr hQ (Or.inr ⟨hw, rfl⟩) hS h

theorem held_call {P : Program} {md : Region.Mode} {S : World → Prop} {Q : Exit → Act → World → Prop} {fuel : Nat} {listed : Array Bool} {a : Act} {w : World} {oi : Oper} {l : List Oper} (i : Nat) (hi : nthOp l i = some oi)
    (hr : Region.ready md l.toArray listed = [i])
    (h : ∀ K' : Act → World → Prop, Shut (∀ a w, S w → (S w → wpAnyH P md l.toArray Q S fuel (listed.setIfInBounds i true) a w) → K' a w) → if Region.wanted oi (yielded l.toArray a.tmps) = true then Oper.wp P oi a w K' Q else K' (a.put oi.dst undef) w) :
    wpAnyH P md l.toArray Q S (fuel + 1) listed a w :=
  wpAnyH_ready hr (by simp) (AllReadyH.cons (by rw [nthOp_get]; exact hi) h AllReadyH.nil)
theorem hyes {P : Program} {md : Region.Mode} {S : World → Prop} {Q : Exit → Act → World → Prop} {fuel : Nat} {listed : Array Bool} {a a' : Act} {w : World} {v : Value} {oi : Oper} {l : List Oper} (i : Nat)
    (h : wpAnyH P md l.toArray Q S fuel (listed.setIfInBounds i true) a' w) (hi : nthOp l i = some oi := by rfl) (hy : ∀ w, S w → (execOp a.eval oi).run P w = .ok (.value v) w := by (intro w hSw; (try dsimp only at hSw); go_simp; (try with_reducible rfl)))
    (ha : a.put oi.dst v = a' := by (simp only [Act.put, List.setIfInBounds_toArray, List.set]; exact rfl)) (hs : Region.noSelect l.toArray = true := by kernel_rfl) (hf : Region.free md l.toArray listed i = true := by kernel_rfl) (hr : (Region.ready md l.toArray listed).contains i = true := by kernel_rfl)
    (hQ : ∀ c a w, Q (.panic c) (a.put oi.dst v) w → Q (.panic c) a w := by exact fun _ _ _ h => h) (hw : Region.wanted oi (yielded l.toArray a.tmps) = true := by rfl) (hS : S w := by assumption) : wpAnyH P md l.toArray Q S (fuel + 1) listed a w := by
  subst ha
  exact held_yes i hi hs hf hr hQ hw hS hy h
theorem hno {P : Program} {md : Region.Mode} {S : World → Prop} {Q : Exit → Act → World → Prop} {fuel : Nat} {listed : Array Bool} {a a' : Act} {w : World} {oi : Oper} {l : List Oper} (i : Nat)
    (h : wpAnyH P md l.toArray Q S fuel (listed.setIfInBounds i true) a' w) (hi : nthOp l i = some oi := by rfl)
    (ha : a.put oi.dst undef = a' := by (simp only [Act.put, List.setIfInBounds_toArray, List.set]; exact rfl)) (hs : Region.noSelect l.toArray = true := by kernel_rfl) (hf : Region.free md l.toArray listed i = true := by kernel_rfl) (hr : (Region.ready md l.toArray listed).contains i = true := by kernel_rfl)
    (hQ : ∀ c a w, Q (.panic c) (a.put oi.dst undef) w → Q (.panic c) a w := by exact fun _ _ _ h => h) (hw : Region.wanted oi (yielded l.toArray a.tmps) = false := by rfl) (hS : S w := by assumption) : wpAnyH P md l.toArray Q S (fuel + 1) listed a w := by
  subst ha
  exact held_no i hi hs hf hr hQ hw hS h
end Go.Proofs.YtedkkegjiikcmaaDoor
namespace Go.Proofs.YtedkkegjiikcmaaDoor
open Go.RowKit Go.Shelf

end Go.Proofs.YtedkkegjiikcmaaDoor
namespace Go.Proofs.YtedkkegjiikcmaaDoor
open Go.RowKit Go.Shelf

def hasB (l : List ByteArray) (s : ByteArray) : Bool := l.any (fun x => decide (x = s))
theorem hasB_yes {l : List ByteArray} {s : ByteArray} {k : Nat} (hl : k < l.length) (e : l[k] = s) : hasB l s = true := by
  unfold hasB; rw [List.any_eq_true]; exact ⟨l[k], List.getElem_mem hl, by simp [e]⟩
theorem hasB_end {l : List ByteArray} {s : ByteArray} {k : Nat} (hk : ¬ k < l.length) (h : ∀ j (hj : j < l.length), j < k → ¬ l[j] = s) : hasB l s = false := by
  unfold hasB; rw [List.any_eq_false]
  intro x hx
  obtain ⟨j, hj, rfl⟩ := List.getElem_of_mem hx
  simp [h j hj (by omega)]
def posSB : List ByteArray → ByteArray → Nat
  | [], _ => 0
  | a :: r, x => if cmpS a x < 0 then posSB r x + 1 else 0
def insAtB (l : List ByteArray) (x : ByteArray) (k : Nat) : List ByteArray := l.take k ++ x :: l.drop k
def insSB (l : List ByteArray) (x : ByteArray) : List ByteArray := if hasB l x then l else insAtB l x (posSB l x)
theorem pos_leB : ∀ (l : List ByteArray) (x : ByteArray), posSB l x ≤ l.length
  | [], _ => Nat.le_refl _
  | a :: r, x => by unfold posSB; have := pos_leB r x; split <;> simp <;> omega
theorem pos_ofB : ∀ (l : List ByteArray) (x : ByteArray) (k : Nat), k ≤ l.length → (∀ j (hj : j < l.length), j < k → cmpS l[j] x < 0) → (∀ hk : k < l.length, ¬ cmpS l[k] x < 0) → posSB l x = k
  | [], x, k, hk, _, _ => by simp at hk; subst hk; rfl
  | a :: r, x, 0, _, _, h => by
    have h' : ¬ cmpS a x < 0 := h (by simp)
    unfold posSB; rw [if_neg h']
  | a :: r, x, k + 1, hk, h1, h2 => by
    have h' : cmpS a x < 0 := h1 0 (by simp) (by omega)
    unfold posSB
    rw [if_pos h', pos_ofB r x k (by simpa using hk) (fun j hj hjk => h1 (j + 1) (by simp; omega) (by omega)) (fun hk' => h2 (by simp; omega))]
theorem insS_hasB {l : List ByteArray} {x : ByteArray} (h : hasB l x = true) : insSB l x = l := if_pos h
theorem insS_notB {l : List ByteArray} {x : ByteArray} (h : hasB l x = false) : insSB l x = insAtB l x (posSB l x) := if_neg (by rw [h]; exact Bool.false_ne_true)
theorem insAt_lenB {l : List ByteArray} {x : ByteArray} {j : Nat} (hj : j ≤ l.length) : (insAtB l x j).length = j + 1 + (l.length - j) := by
  unfold insAtB; rw [List.length_append, List.length_cons, List.length_take, List.length_drop]; omega
theorem eqB_self (x : ByteArray) : decide (x = x) = true := decide_eq_true rfl
theorem hasB_mem (l : List ByteArray) (x : ByteArray) : hasB l x = true ↔ x ∈ l := by
  unfold hasB; rw [List.any_eq_true]
  constructor
  · rintro ⟨y, hy, e⟩; rw [← of_decide_eq_true e]; exact hy
  · intro h; exact ⟨x, h, eqB_self x⟩
theorem lt_trans'B {x y z : ByteArray} (h : cmpS x y < 0) (h' : cmpS y z < 0) : cmpS x z < 0 := by
  obtain ⟨a, b⟩ := wcmp_str.le x y z (by omega) (by omega)
  have : ¬ cmpS x z = 0 := fun e => by have := (b e).1; omega
  omega
theorem lt_irrefl'B (x : ByteArray) : ¬ cmpS x x < 0 := by have := (cmpS_zero x x).2 rfl; omega
def AscB (l : List ByteArray) : Prop := l.Pairwise fun x y => cmpS x y < 0
theorem asc_uniqueB : ∀ (l m : List ByteArray), AscB l → AscB m → (∀ x, x ∈ l ↔ x ∈ m) → l = m
  | [], [], _, _, _ => rfl
  | [], y :: m, _, _, h => absurd ((h y).2 (by simp)) (by simp)
  | x :: l, [], _, _, h => absurd ((h x).1 (by simp)) (by simp)
  | x :: l, y :: m, hl, hm, h => by
    have hl' := List.pairwise_cons.1 hl
    have hm' := List.pairwise_cons.1 hm
    have e : x = y := by
      rcases List.mem_cons.1 ((h x).1 (by simp)) with e | e
      · exact e
      · rcases List.mem_cons.1 ((h y).2 (by simp)) with e' | e'
        · exact e'.symm
        · exact absurd (lt_trans'B (hm'.1 x e) (hl'.1 y e')) (lt_irrefl'B y)
    subst e
    refine congrArg (x :: ·) (asc_uniqueB l m hl'.2 hm'.2 fun z => ?_)
    constructor
    · intro hz
      rcases List.mem_cons.1 ((h z).1 (by simp [hz])) with e | e
      · subst e; exact absurd (hl'.1 z hz) (lt_irrefl'B z)
      · exact e
    · intro hz
      rcases List.mem_cons.1 ((h z).2 (by simp [hz])) with e | e
      · subst e; exact absurd (hm'.1 z hz) (lt_irrefl'B z)
      · exact e
theorem insS_memB (l : List ByteArray) (x z : ByteArray) : z ∈ insSB l x ↔ z ∈ l ∨ z = x := by
  unfold insSB
  by_cases h : hasB l x = true
  · rw [if_pos h]
    exact ⟨.inl, fun h' => h'.elim id (fun e => e ▸ (hasB_mem l x).1 h)⟩
  · rw [if_neg h]
    unfold insAtB
    rw [List.mem_append, List.mem_cons]
    have := List.take_append_drop (posSB l x) l
    constructor
    · rintro (h | h | h)
      · exact .inl (List.mem_of_mem_take h)
      · exact .inr h
      · exact .inl (List.mem_of_mem_drop h)
    · rintro (h | h)
      · rw [← this] at h
        rcases List.mem_append.1 h with h | h
        · exact .inl h
        · exact .inr (.inr h)
      · exact .inr (.inl h)
theorem pos_takeB : ∀ (l : List ByteArray) (x z : ByteArray), z ∈ l.take (posSB l x) → cmpS z x < 0
  | [], _, _, h => by simp at h
  | a :: r, x, z, h => by
    unfold posSB at h
    by_cases ha : cmpS a x < 0
    · rw [if_pos ha] at h
      rcases List.mem_cons.1 (by simpa using h) with rfl | h
      · exact ha
      · exact pos_takeB r x z h
    · rw [if_neg ha] at h; simp at h
theorem pos_dropB : ∀ (l : List ByteArray) (x z : ByteArray), AscB l → z ∈ l.drop (posSB l x) → ¬ cmpS z x < 0
  | [], _, _, _, h => by simp at h
  | a :: r, x, z, hl, h => by
    unfold posSB at h
    by_cases ha : cmpS a x < 0
    · rw [if_pos ha] at h
      exact pos_dropB r x z (List.pairwise_cons.1 hl).2 (by simpa using h)
    · rw [if_neg ha] at h
      rcases List.mem_cons.1 (by simpa using h) with rfl | h
      · exact ha
      · have := (List.pairwise_cons.1 hl).1 z h
        intro hz; exact ha (lt_trans'B this hz)
theorem insS_ascB {l : List ByteArray} (h : AscB l) (x : ByteArray) : AscB (insSB l x) := by
  unfold insSB
  by_cases hx : hasB l x = true
  · rw [if_pos hx]; exact h
  · rw [if_neg hx]
    have hn : ¬ x ∈ l := fun h' => hx ((hasB_mem l x).2 h')
    have h1 : AscB (l.take (posSB l x)) := h.sublist (List.take_sublist _ _)
    have h2 : AscB (l.drop (posSB l x)) := h.sublist (List.drop_sublist _ _)
    have h3 : ∀ a ∈ l.take (posSB l x), ∀ b ∈ l.drop (posSB l x), cmpS a b < 0 := by
      have := h
      rw [AscB, ← List.take_append_drop (posSB l x) l, List.pairwise_append] at this
      exact this.2.2
    unfold insAtB AscB
    rw [List.pairwise_append, List.pairwise_cons]
    refine ⟨h1, ⟨fun b hb => ?_, h2⟩, fun a ha b hb => ?_⟩
    · have h4 := pos_dropB l x b h hb
      have h5 : ¬ cmpS b x = 0 := fun e => hn ((cmpS_zero b x).1 e ▸ List.mem_of_mem_drop hb)
      have := wcmp_str.neg b x
      omega
    · rcases List.mem_cons.1 hb with rfl | hb
      · exact pos_takeB l b a ha
      · exact h3 a ha b hb
end Go.Proofs.YtedkkegjiikcmaaDoor
namespace Go.Proofs.YtedkkegjiikcmaaDoor
open Go.RowKit Go.Shelf

def idxB : List ByteArray → ByteArray → Nat
  | [], _ => 0
  | a :: r, s => if a = s then 0 else idxB r s + 1
def placeB (l : List ByteArray) (s : ByteArray) : Int := if hasB l s = true then (idxB l s : Int) else -1
theorem idxB_first : ∀ (l : List ByteArray) (s : ByteArray) (k : Nat) (hk : k < l.length), l[k] = s → (∀ j (hj : j < l.length), j < k → ¬ l[j] = s) → idxB l s = k
  | [], _, _, hk, _, _ => by simp at hk
  | a :: r, s, 0, _, h, _ => by
    have h' : a = s := h
    show (if a = s then 0 else idxB r s + 1) = 0
    rw [if_pos h']
  | a :: r, s, k + 1, hk, h, h' => by
    have h0 : ¬ a = s := h' 0 (by simp) (by omega)
    show (if a = s then 0 else idxB r s + 1) = k + 1
    rw [if_neg h0, idxB_first r s k (by simpa using hk) (by simpa using h) (fun j hj hjk e => h' (j + 1) (by simp; omega) (by omega) e)]
theorem place_first {l : List ByteArray} {s : ByteArray} {k : Nat} (hk : k < l.length) (h : l[k] = s) (h' : ∀ j (hj : j < l.length), j < k → ¬ l[j] = s) : placeB l s = k := by
  unfold placeB
  rw [if_pos ((hasB_mem l s).2 (h ▸ List.getElem_mem hk)), idxB_first l s k hk h h']
theorem place_no {l : List ByteArray} {s : ByteArray} (h : ∀ j (hj : j < l.length), ¬ l[j] = s) : placeB l s = -1 := by
  unfold placeB
  rw [if_neg]
  intro h1
  obtain ⟨j, hj, e⟩ := List.getElem_of_mem ((hasB_mem l s).1 h1)
  exact h j hj e
theorem place_asc {l : List ByteArray} (hl : AscB l) {s : ByteArray} {k : Nat} (hk : k < l.length) (h : l[k] = s) : placeB l s = k :=
  place_first hk h (fun j hj hjk e => by
    have := List.pairwise_iff_getElem.1 hl j k hj hk hjk
    rw [e, h] at this
    exact lt_irrefl'B s this)
theorem place_gap {l : List ByteArray} (_ : AscB l) {s : ByteArray} {k : Nat} (h1 : ∀ j (hj : j < l.length), j < k → cmpS l[j] s < 0) (h2 : ∀ j (hj : j < l.length), k ≤ j → ¬ cmpS l[j] s < 0) (h3 : ∀ hk : k < l.length, ¬ l[k] = s) (hl : AscB l) : placeB l s = -1 :=
  place_no (fun j hj e => by
    by_cases hjk : j < k
    · have := h1 j hj hjk
      rw [e] at this
      exact lt_irrefl'B s this
    · have hk : k < l.length := by omega
      by_cases hjk2 : j = k
      · subst hjk2; exact h3 hk e
      · have := List.pairwise_iff_getElem.1 hl k j hk hj (by omega)
        rw [e] at this
        exact h2 k hk (Nat.le_refl _) this)
end Go.Proofs.YtedkkegjiikcmaaDoor
namespace Go.Proofs.YtedkkegjiikcmaaDoor
open Go.RowKit Go.Shelf Go.Lib Go.Sort

section
variable {α : Type} [DecidableEq α]
end
end Go.Proofs.YtedkkegjiikcmaaDoor
namespace Go.Proofs.YtedkkegjiikcmaaDoor
open Go.RowKit Go.Shelf Go.Sort

end Go.Proofs.YtedkkegjiikcmaaDoor
namespace Go.Proofs.YtedkkegjiikcmaaDoor
open Go.RowKit Go.Shelf

theorem cmp_isNaNs (s : ByteArray) (w : World) : Calls Tryd.prog 123 #[.string s] w fun e w' => e = .returned (.bool false) ∧ w' = w := by
  go_enter Tryd.func123, Tryd.ntmps123
  go_wp2
  go_ret
  exact ⟨by simp, rfl⟩
theorem sl_isNaNs (s : ByteArray) (w : World) : Calls Tryd.prog 106 #[.string s] w fun e w' => e = .returned (.bool false) ∧ w' = w := by
  go_enter Tryd.func106, Tryd.ntmps106
  go_wp2
  go_ret
  exact ⟨by simp, rfl⟩
theorem cmp_LessS (x y : ByteArray) (w : World) : Calls Tryd.prog 105 #[.string x, .string y] w fun e w' => e = .returned (.bool (decide (cmpS x y < 0))) ∧ w' = w := by
  have N := Lib.hid (fun W => cmp_isNaNs x W)
  have E := Lib.hid (str_less x y)
  generalize decide (cmpS x y < 0) = r at E ⊢
  go_enter Tryd.func105, Tryd.ntmps105
  go_wp2_with fail
  refine (N.out _).mono ?_
  rintro e w1 ⟨rfl, rfl⟩
  go_wp2
  go_ret
  exact ⟨by rw [E.out]; rfl, rfl⟩
end Go.Proofs.YtedkkegjiikcmaaDoor
namespace Go.Proofs.YtedkkegjiikcmaaDoor
open Go.RowKit Go.Shelf

theorem search_yes {l : List ByteArray} (hl : AscB l) {s : ByteArray} {h : Nat} (hh : h < l.length) (e : cmpS l[h] s < 0) : ∀ k (hk : k < l.length), k < h + 1 → cmpS l[k] s < 0 := fun k hk hkh => by
  by_cases h' : k = h
  · subst h'; exact e
  · exact lt_trans'B (List.pairwise_iff_getElem.1 hl k h hk hh (by omega)) e
theorem search_no {l : List ByteArray} (hl : AscB l) {s : ByteArray} {h : Nat} (hh : h < l.length) (e : ¬ cmpS l[h] s < 0) : ∀ k (hk : k < l.length), h ≤ k → ¬ cmpS l[k] s < 0 := fun k hk hkh e' => by
  by_cases h' : k = h
  · subst h'; exact e e'
  · exact e (lt_trans'B (List.pairwise_iff_getElem.1 hl h k hh hk (by omega)) e')
end Go.Proofs.YtedkkegjiikcmaaDoor
namespace Go.Proofs.YtedkkegjiikcmaaDoor
open Go.RowKit Go.Shelf

section
variable {t ba bb : Nat} {a b : List ByteArray} {w : World}
end
end Go.Proofs.YtedkkegjiikcmaaDoor
namespace Go.Proofs.YtedkkegjiikcmaaDoor
open Go.RowKit Go.Shelf

section
variable {l : List ByteArray} {s : ByteArray} {k : Nat} {ss : List ByteArray}
end
end Go.Proofs.YtedkkegjiikcmaaDoor
namespace Go.Proofs.YtedkkegjiikcmaaDoor
open Go.RowKit Go.Shelf

end Go.Proofs.YtedkkegjiikcmaaDoor
namespace Go.Proofs.YtedkkegjiikcmaaDoor
open Go.RowKit Go.Shelf

def risesAt (us : List ByteArray) (i : Nat) : Bool := isP 65 90 (bl (us.getD i emp)) && (decide (i = 0) || Op.bytesLess (us.getD (i - 1) emp).toList (us.getD i emp).toList)
def rises (us : List ByteArray) : Bool := (List.range us.length).all (risesAt us)
theorem rises_yes {us : List ByteArray} {k : Nat} (hk : ¬ k < us.length) (h : ∀ j, j < k → risesAt us j = true) : rises us = true := by
  unfold rises; rw [List.all_eq_true]
  intro j hj
  exact h j (by have := List.mem_range.1 hj; omega)
theorem rises_no {us : List ByteArray} {k : Nat} (hk : k < us.length) (h : risesAt us k = false) : rises us = false := by
  cases hr : rises us with
  | false => rfl
  | true =>
    unfold rises at hr
    rw [List.all_eq_true] at hr
    rw [hr k (List.mem_range.2 hk)] at h; cases h
theorem getD_at {us : List ByteArray} {k : Nat} (hk : k < us.length) : us.getD k emp = us[k] := by rw [List.getD_eq_getElem?_getD, List.getElem?_eq_getElem hk]; rfl
def rightQ (q : Qv) (us : List ByteArray) : Bool :=
  decide (1 ≤ q.k) && (decide (q.k ≤ 6) && (isRole q.a && (rises us &&
  (if 5 ≤ q.k then isRole q.b && decide (us.length = 0) else eqRl q.b noR && (decide (us.length ≤ 12) && (if q.k = 4 then decide (us.length = 0) else decide (q.k = 3) || decide (0 < us.length)))))))
end Go.Proofs.YtedkkegjiikcmaaDoor
