/- A block that keeps its form: its cells are as many, of the same type, as they were. slices.Compact at rows of statements. syn.Sort: any row of statements in order, each once. Functions of package slices at rows of statements: Index, Contains, Equal. Package state: its small functions, at rows of statements. Package state: Minus and About. slices.Concat at two rows of statements, and state.Union. The reference's Print; the law's Light. Package state: Is; the laws' Light and lives. Rows of roles: whether one is among them. Package state: MayCome and MayGo; the law's lives; the reference's Of. Policies in memory, and whether they are light. One block of a call's own that stands whole. Whether a policy is light: crupperlaw05.Light. Rows of texts: crupperref01.Has and Put, as far as that some bool, and some row, comes back. A region that draws its order, walked by hand: an operation that is taken first, and one whose guard says no. A region that draws its order and ends in a store into a cell that it loads: what is loaded is held up to the last operation, which waits for all others. strings.CutSuffix of a line feed, strings.Lines and its iterator, scan.Lines. The package scan: what its functions return, for every argument. scan.Tokens returns the tokens of a line, or what is wrong first, and where. The reference of layer 2: what its small functions return, for every argument. scan.Trim, crupperref02.Trim: the same; crupperref02.Lines (printed by gen_linesref.py). The reference's Tokens returns the tokens of a line, or what is wrong first, and where. The reference's Alike is true of two slices that read as the same tokens. strings.Builder, made by the call itself: copyCheck and WriteString at this program: the builder then holds what it held and the new bytes. (The library's own proofs, turned to this translation, in which the panic of copyCheck is refused.). -/
import Derived.Test.YtedkkegjiikcmaaDoorPart3
import Derived.Laws.IdiomCopy
import Derived.Shelf.GgSortFunc.InsertionK
import Derived.Test.YtedkkegjiikcmaaDoorPart4
import Derived.Lib.SliceRun
import Derived.Test.YtedkkegjiikcmaaDoorShelfSort
import Derived.Shelf.SlSortCmp.NoneTotal
import Derived.Shelf.SlicesE.Clone
import Derived.Shelf.Spec.SlicesGrow
import Derived.Deep.RegionHeld3
import Derived.Deep.AppendLies
import Derived.Test.YtedkkegjiikcmaaDoorPart1
import Derived.Test.YtedkkegjiikcmaaDoorShelf
import Derived.Maps.AppendAt
import Derived.Lib.TrimByte
import Derived.Shelf.Strings.BuilderK
namespace Go.Proofs.YtedkkegjiikcmaaDoor
open Go.RowKit Go.Shelf Go.Lib Go.Sort

end Go.Proofs.YtedkkegjiikcmaaDoor
namespace Go.Proofs.YtedkkegjiikcmaaDoor
open Go.RowKit Go.Shelf

end Go.Proofs.YtedkkegjiikcmaaDoor
namespace Go.Proofs.YtedkkegjiikcmaaDoor
open Go.RowKit Go.Shelf Go.Lib Go.Sort

end Go.Proofs.YtedkkegjiikcmaaDoor
namespace Go.Proofs.YtedkkegjiikcmaaDoor
open Go.RowKit Go.Shelf

end Go.Proofs.YtedkkegjiikcmaaDoor
namespace Go.Proofs.YtedkkegjiikcmaaDoor
open Go.RowKit Go.Shelf

end Go.Proofs.YtedkkegjiikcmaaDoor
namespace Go.Proofs.YtedkkegjiikcmaaDoor
open Go.RowKit Go.Shelf

end Go.Proofs.YtedkkegjiikcmaaDoor
namespace Go.Proofs.YtedkkegjiikcmaaDoor
open Go.RowKit Go.Shelf

end Go.Proofs.YtedkkegjiikcmaaDoor
namespace Go.Proofs.YtedkkegjiikcmaaDoor
open Go.RowKit Go.Shelf

end Go.Proofs.YtedkkegjiikcmaaDoor
namespace Go.Proofs.YtedkkegjiikcmaaDoor
open Go.RowKit Go.Shelf

end Go.Proofs.YtedkkegjiikcmaaDoor
namespace Go.Proofs.YtedkkegjiikcmaaDoor
open Go.RowKit Go.Shelf

end Go.Proofs.YtedkkegjiikcmaaDoor
namespace Go.Proofs.YtedkkegjiikcmaaDoor
open Go.RowKit Go.Shelf

end Go.Proofs.YtedkkegjiikcmaaDoor
namespace Go.Proofs.YtedkkegjiikcmaaDoor
open Go.RowKit Go.Shelf

def strs (l : List ByteArray) : List Value := l.map .string
theorem strs_get {l : List ByteArray} {k : Nat} (hk : k < l.length) : (strs l)[k]? = some (.string l[k]) := by simp [strs, hk]

structure Qv where
  k : Int
  a : Rl
  b : Rl
  w : Value
instance : Inhabited Qv := ⟨⟨0, noR, noR, .slice none 0 0⟩⟩
end Go.Proofs.YtedkkegjiikcmaaDoor
namespace Go.Proofs.YtedkkegjiikcmaaDoor
open Go.RowKit Go.Shelf

end Go.Proofs.YtedkkegjiikcmaaDoor
namespace Go.Proofs.YtedkkegjiikcmaaDoor
open Go.RowKit Go.Shelf

end Go.Proofs.YtedkkegjiikcmaaDoor
namespace Go.Proofs.YtedkkegjiikcmaaDoor
open Go.RowKit Go.Shelf

theorem str1 (s : ByteArray) : ∀ u ∈ [Value.string s], u.oneCell' = true := fun u hu => by rw [List.mem_singleton.1 hu]; rfl
theorem str_info : (Tryd.prog.info? 9).map (fun i => (i.zero, i.size, i.bytes)) = some (some (.string ByteArray.empty), 1, 16) := by kernel_rfl
end Go.Proofs.YtedkkegjiikcmaaDoor
namespace Go.Proofs.YtedkkegjiikcmaaDoor
open Go.RowKit Go.Shelf

def nthOp : List Oper → Nat → Option Oper
  | [], _ => none
  | o :: _, 0 => some o
  | _ :: r, n + 1 => nthOp r n
theorem nthOp_get : ∀ (l : List Oper) (i : Nat), l.toArray[i]? = nthOp l i
  | [], i => by simp [nthOp]
  | o :: r, 0 => by simp [nthOp]
  | o :: r, n + 1 => by have := nthOp_get r n; simpa [nthOp] using this

theorem held_no {P : Program} {md : Region.Mode} {S : World → Prop} {Q : Exit → Act → World → Prop} {fuel : Nat} {listed : Array Bool} {a : Act} {w : World} {oi : Oper} {l : List Oper} (i : Nat) (hi : nthOp l i = some oi)
    (hs : Region.noSelect l.toArray = true) (hf : Region.free md l.toArray listed i = true) (hr : (Region.ready md l.toArray listed).contains i = true)
    (hQ : ∀ c a w, Q (.panic c) (a.put oi.dst undef) w → Q (.panic c) a w) (hw : Region.wanted oi (yielded l.toArray a.tmps) = false) (hS : S w)
    (h : wpAnyH P md l.toArray Q S fuel (listed.setIfInBounds i true) (a.put oi.dst undef) w) : wpAnyH P md l.toArray Q S (fuel + 1) listed a w :=
  wpAnyH_take (by rw [nthOp_get]; exact hi) hs hf hr hQ (Or.inr ⟨hw, rfl⟩) hS h

theorem hno {P : Program} {md : Region.Mode} {S : World → Prop} {Q : Exit → Act → World → Prop} {fuel : Nat} {listed : Array Bool} {a a' : Act} {w : World} {oi : Oper} {l : List Oper} (i : Nat)
    (h : wpAnyH P md l.toArray Q S fuel (listed.setIfInBounds i true) a' w) (hi : nthOp l i = some oi := by rfl)
    (ha : a.put oi.dst undef = a' := by (simp only [Act.put, List.setIfInBounds_toArray, List.set]; exact rfl)) (hs : Region.noSelect l.toArray = true := by kernel_rfl) (hf : Region.free md l.toArray listed i = true := by kernel_rfl) (hr : (Region.ready md l.toArray listed).contains i = true := by kernel_rfl)
    (hQ : ∀ c a w, Q (.panic c) (a.put oi.dst undef) w → Q (.panic c) a w := by exact fun _ _ _ h => h) (hw : Region.wanted oi (yielded l.toArray a.tmps) = false := by rfl) (hS : S w := by assumption) : wpAnyH P md l.toArray Q S (fuel + 1) listed a w := by
  subst ha
  exact held_no i hi hs hf hr hQ hw hS h
end Go.Proofs.YtedkkegjiikcmaaDoor
namespace Go.Proofs.YtedkkegjiikcmaaDoor
open Go.RowKit Go.Shelf

section
variable {P : Program} {ops : Array Oper} {Q : Exit → Act → World → Prop} {md : Region.Mode} {S : World → Prop} {last : Nat}

def underB (md : Region.Mode) (ops : Array Oper) : Nat → Nat → Nat → Bool
  | 0, _, _ => false
  | f + 1, j, i => match ops[j]? with
    | none => false
    | some o => o.after.any fun e => Region.binds md e && (e.on == i || underB md ops f e.on i)
def ClosedL (md : Region.Mode) (ops : Array Oper) (listed : Array Bool) : Prop :=
  ∀ j o, ops[j]? = some o → listed.getD j false = true → ∀ e ∈ o.after, Region.binds md e = true → listed.getD e.on false = true
def closedB (md : Region.Mode) (ops : Array Oper) (listed : Array Bool) : Bool :=
  (List.range ops.size).all fun j => !listed.getD j false || match ops[j]? with
    | some o => o.after.all fun e => !Region.binds md e || listed.getD e.on false
    | none => true
theorem closedB_spec {listed : Array Bool} (h : closedB md ops listed = true) : ClosedL md ops listed := by
  intro j o ho hl e he hb
  have h1 := List.all_eq_true.1 h j (List.mem_range.2 (Array.getElem?_eq_some_iff.1 ho).1)
  rw [hl, ho] at h1
  simp only [Bool.not_true, Bool.false_or] at h1
  have h2 := Array.all_eq_true_iff_forall_mem.1 h1 e he
  rw [hb] at h2
  simpa using h2
theorem under_listed {listed : Array Bool} (hc : ClosedL md ops listed) : ∀ (f j i : Nat), underB md ops f j i = true →
    (∀ o, ops[j]? = some o → ∀ e ∈ o.after, Region.binds md e = true → listed.getD e.on false = true) → listed.getD i false = true
  | 0, _, _, h, _ => by cases h
  | f + 1, j, i, h, hl => by
    unfold underB at h
    cases ho : ops[j]? with
    | none => rw [ho] at h; cases h
    | some o =>
      rw [ho] at h
      obtain ⟨e, he, hb⟩ := Array.any_eq_true'.1 h
      rw [Bool.and_eq_true, Bool.or_eq_true] at hb
      have h2 := hl o ho e he hb.1
      rcases hb.2 with h1 | h1
      · rw [← (beq_iff_eq.1 h1)]; exact h2
      · exact under_listed hc f e.on i h1 (fun o' ho' e' he' hb' => hc _ o' ho' h2 e' he' hb')
theorem closed_set {listed : Array Bool} {j : Nat} (hc : ClosedL md ops listed) (hj : j ∈ Region.ready md ops listed) : ClosedL md ops (listed.setIfInBounds j true) := by
  intro k o ho hl e he hb
  by_cases hk : k = j
  · subst hk
    obtain ⟨_, o', ho', hall⟩ := mem_ready.1 hj
    rw [ho] at ho'; cases ho'
    exact getD_set_true (hall e he hb)
  · rw [getD_set_ne false (Ne.symm hk)] at hl
    exact getD_set_true (hc k o ho hl e he hb)

def wpAnyL (P : Program) (md : Region.Mode) (ops : Array Oper) (Q : Exit → Act → World → Prop) (S : World → Prop) (last : Nat) : Nat → Array Bool → Act → World → Prop
  | 0, listed, a, w => Region.ready md ops listed = [] ∧ Q .normal a w
  | fuel + 1, listed, a, w =>
    (Region.ready md ops listed = [] → Q .normal a w) ∧
    ∀ i ∈ Region.ready md ops listed, wpOp P ops Q i (fun a' w' => (i = last ∨ S w') ∧ wpAnyL P md ops Q S last fuel (listed.setIfInBounds i true) a' w') a w
theorem wpAny_of_l : ∀ (fuel : Nat) (listed : Array Bool) (a : Act) (w : World), wpAnyL P md ops Q S last fuel listed a w → wpAny P md ops Q fuel listed a w
  | 0, _, _, _, h => h
  | fuel + 1, _, _, _, h => ⟨h.1, fun i hi => wpOp_mono (fun a' w' h' => wpAny_of_l fuel _ a' w' h'.2) (h.2 i hi)⟩
theorem wpAnyL_first {i : Nat} {oi : Oper} {v : Value} (hi : ops[i]? = some oi) (hsel : ∀ (j : Nat) (o : Oper) cs b, ops[j]? = some o → o.op ≠ .select cs b)
    (hQ : ∀ c a w, Q (.panic c) (a.put oi.dst v) w → Q (.panic c) a w) (f : Nat) (hu : underB md ops f last i = true) :
    ∀ (fuel : Nat) (listed : Array Bool) (a : Act) (w : World), ClosedL md ops listed →
      (∀ j oj, ops[j]? = some oj → j ≠ i → listed.getD j true = false → (∀ e ∈ oj.after, Region.binds md e = true → e.on ≠ i) → oi.apart ops oj = true) →
      i ∈ Region.ready md ops listed → YieldsIf P ops S oi v a → S w →
      wpAnyL P md ops Q S last fuel (listed.setIfInBounds i true) (a.put oi.dst v) w → wpAnyL P md ops Q S last (fuel + 1) listed a w := by
  intro fuel
  induction fuel with
  | zero =>
    intro listed a w _ _ hr hy hS H
    refine ⟨fun h => (by rw [h] at hr; cases hr), fun j hj => ?_⟩
    by_cases hji : j = i
    · subst hji; exact hy.wpOp hi hS ⟨.inr hS, H⟩
    · have := ready_mono hj hji
      rw [H.1] at this
      cases this
  | succ fuel ih =>
    intro listed a w hc hfree hr hy hS H
    refine ⟨fun h => (by rw [h] at hr; cases hr), fun j hj => ?_⟩
    by_cases hji : j = i
    · subst hji; exact hy.wpOp hi hS ⟨.inr hS, H⟩
    · have h1 := H.2 j (ready_mono hj hji)
      obtain ⟨hjun, oj, hoj, hall⟩ := mem_ready.1 hj
      have hiun := (mem_ready.1 hr).1
      have noti : listed.getD i false = true → False := fun h1 => by
        rcases Nat.lt_or_ge i listed.size with h' | h'
        · simp [h'] at hiun h1; rw [hiun] at h1; cases h1
        · simp [Array.getElem?_eq_none h'] at h1
      have hnot : ∀ e ∈ oj.after, Region.binds md e = true → e.on ≠ i := fun e he hb heq => noti (heq ▸ hall e he hb)
      have hlast : j ≠ last := fun e => by
        subst e
        exact noti (under_listed hc _ _ _ hu (fun o ho e he hb => by rw [hoj] at ho; cases ho; exact hall e he hb))
      have h2 := wpOp_putIf hoj (hfree j oj hoj hji hjun hnot) (fun cs b => hsel i oi cs b hi) (fun cs b => hsel j oj cs b hoj) hQ hy h1
      have hfree' : ∀ k ok, ops[k]? = some ok → k ≠ i → (listed.setIfInBounds j true).getD k true = false →
          (∀ e ∈ ok.after, Region.binds md e = true → e.on ≠ i) → oi.apart ops ok = true := fun k ok hk hki hun hno => by
        refine hfree k ok hk hki ?_ hno
        by_cases hjk : j = k
        · subst hjk; exact hjun
        · rw [getD_set_ne true hjk] at hun; exact hun
      refine wpOp_mono (fun a' w' h3 => ⟨h3.2.1, ih (listed.setIfInBounds j true) a' w' (closed_set hc hj) hfree' (ready_mono hr (Ne.symm hji)) h3.1 (h3.2.1.resolve_left hlast) ?_⟩) h2
      rw [Array.setIfInBounds_comm _ _ hji]
      exact h3.2.2
theorem wpAnyL_done {listed : Array Bool} {a : Act} {w : World} (hr : Region.ready md ops listed = []) (h : Q .normal a w) :
    ∀ fuel, wpAnyL P md ops Q S last fuel listed a w
  | 0 => ⟨hr, h⟩
  | _ + 1 => ⟨fun _ => h, by rw [hr]; simp⟩
end

theorem wp_region_last {P : Program} {Q : Exit → Act → World → Prop} {S : World → Prop} {l : List Oper} {id : Nat} {a : Act} {w : World} (last : Nat) (hm : P.follows .mixedOrders = true) (hS : S w.drew)
    (h : S w.drew → wpAnyL P .any l.toArray Q S last l.toArray.size (Array.replicate l.toArray.size false) a w.drew) : (Code.region id l.toArray true).wp P Q a w :=
  wp_region_any hm (wpAny_of_l _ _ _ _ (h hS))
theorem last_yes {P : Program} {md : Region.Mode} {S : World → Prop} {Q : Exit → Act → World → Prop} {fuel last : Nat} {listed : Array Bool} {a : Act} {w : World} {v : Value} {oi : Oper} {l : List Oper} (i : Nat) (hi : nthOp l i = some oi)
    (hs : Region.noSelect l.toArray = true) (hf : Region.free md l.toArray listed i = true) (hr : (Region.ready md l.toArray listed).contains i = true) (hu : underB md l.toArray l.length last i = true) (hc : closedB md l.toArray listed = true)
    (hQ : ∀ c a w, Q (.panic c) (a.put oi.dst v) w → Q (.panic c) a w) (hw : Region.wanted oi (yielded l.toArray a.tmps) = true) (hS : S w) (hy : ∀ w, S w → (execOp a.eval oi).run P w = .ok (.value v) w)
    (h : wpAnyL P md l.toArray Q S last fuel (listed.setIfInBounds i true) (a.put oi.dst v) w) : wpAnyL P md l.toArray Q S last (fuel + 1) listed a w := by
  have hi' : l.toArray[i]? = some oi := by rw [nthOp_get]; exact hi
  exact wpAnyL_first hi' (Region.noSelect_spec hs) hQ _ hu fuel listed a w (closedB_spec hc) (Region.free_spec hi' hf) (by simpa using hr) (Or.inl ⟨hw, hy⟩) hS h
theorem last_end {P : Program} {md : Region.Mode} {S : World → Prop} {Q : Exit → Act → World → Prop} {fuel : Nat} {listed : Array Bool} {a : Act} {w : World} {oi : Oper} {l : List Oper} (i : Nat) (hi : nthOp l i = some oi)
    (hr : Region.ready md l.toArray listed = [i]) (hd : Region.ready md l.toArray (listed.setIfInBounds i true) = [])
    (h : ∀ K' : Act → World → Prop, Shut (∀ a w, Q .normal a w → K' a w) → if Region.wanted oi (yielded l.toArray a.tmps) = true then Oper.wp P oi a w K' Q else K' (a.put oi.dst undef) w) :
    wpAnyL P md l.toArray Q S i (fuel + 1) listed a w := by
  refine ⟨fun h0 => (by rw [hr] at h0; cases h0), ?_⟩
  rw [hr]
  intro j hj
  rw [List.mem_singleton] at hj
  subst hj
  exact wpOp_step (by rw [nthOp_get]; exact hi) (fun K' hK => h K' (fun a w hQ => hK a w ⟨.inl rfl, wpAnyL_done hd hQ _⟩))
theorem lyes {P : Program} {md : Region.Mode} {S : World → Prop} {Q : Exit → Act → World → Prop} {fuel last : Nat} {listed : Array Bool} {a a' : Act} {w : World} {v : Value} {oi : Oper} {l : List Oper} (i : Nat)
    (h : wpAnyL P md l.toArray Q S last fuel (listed.setIfInBounds i true) a' w) (hi : nthOp l i = some oi := by rfl) (hy : ∀ w, S w → (execOp a.eval oi).run P w = .ok (.value v) w := by (intro w hSw; (try dsimp only at hSw); go_simp; (try with_reducible rfl)))
    (ha : a.put oi.dst v = a' := by (simp only [Act.put, List.setIfInBounds_toArray, List.set]; exact rfl)) (hs : Region.noSelect l.toArray = true := by kernel_rfl) (hf : Region.free md l.toArray listed i = true := by kernel_rfl) (hr : (Region.ready md l.toArray listed).contains i = true := by kernel_rfl) (hu : underB md l.toArray l.length last i = true := by kernel_rfl) (hc : closedB md l.toArray listed = true := by kernel_rfl)
    (hQ : ∀ c a w, Q (.panic c) (a.put oi.dst v) w → Q (.panic c) a w := by exact fun _ _ _ h => h) (hw : Region.wanted oi (yielded l.toArray a.tmps) = true := by rfl) (hS : S w := by assumption) : wpAnyL P md l.toArray Q S last (fuel + 1) listed a w := by
  subst ha
  exact last_yes i hi hs hf hr hu hc hQ hw hS hy h
end Go.Proofs.YtedkkegjiikcmaaDoor
namespace Go.Proofs.YtedkkegjiikcmaaDoor
open Go.RowKit Go.Shelf

theorem strl_HasSuffix (s : ByteArray) (r : Bool) (w : World) (h0 : 0 < s.size) (hz : s.size ≤ 9223372036854775807) (h : ((s.extract (s.size - 1) s.size).toList == [10]) = r) :
    Calls Tryd.prog 94 #[.string s, .string ⟨#[10]⟩] w fun e w' => e = .returned (.bool r) ∧ w' = w := by
  have d1 : decide ((1 : Int) ≤ (s.size : Int)) = true := decide_eq_true (by omega)
  go_enter Tryd.func94, Tryd.ntmps94
  go_wp2_with fail
  go_ret
  exact ⟨ret_b rfl, rfl⟩
theorem strl_CutSuffix (s t : ByteArray) (r : Bool) (w : World) (h0 : 0 < s.size) (hz : s.size ≤ 9223372036854775807) (h : ((s.extract (s.size - 1) s.size).toList == [10]) = r) (ht : t = if r = true then s.extract 0 (s.size - 1) else s) :
    Calls Tryd.prog 68 #[.string s, .string ⟨#[10]⟩] w fun e w' => e = .returned (.tuple #[.string t, .bool r]) ∧ w' = w := by
  have HS := Lib.hid (strl_HasSuffix s r w h0 hz h)
  cases r with
  | true =>
    obtain rfl : t = s.extract 0 (s.size - 1) := ht
    clear h
    go_enter Tryd.func68, Tryd.ntmps68
    go_wp2_with fail
    refine HS.out.mono ?_
    rintro e w1 ⟨rfl, rfl⟩
    go_wp2
    exact bodyPost_ret (v := .tuple #[.string (s.extract 0 (s.size - 1)), .bool true]) (by simp [results, Tryd.results68, go_sem]) rfl ⟨rfl, rfl⟩
  | false =>
    obtain rfl : t = s := ht
    clear h
    go_enter Tryd.func68, Tryd.ntmps68
    go_wp2_with fail
    refine HS.out.mono ?_
    rintro e w1 ⟨rfl, rfl⟩
    go_wp2
    exact bodyPost_ret (v := .tuple #[.string t, .bool false]) (by simp [results, Tryd.results68, go_sem]) rfl ⟨rfl, rfl⟩
theorem str_CutNl (p : List UInt8 × Bool) (w : World) (hz : (fullL p).length ≤ 9223372036854775806) (h : p.2 = true ∨ (p.1 ≠ [] ∧ p.2 = false ∧ ∀ c, p.1.getLast? = some c → c ≠ 10)) :
    Calls Tryd.prog 33 #[.string (pieceB p), .string ⟨#[10]⟩] w fun e w' => e = .returned (.tuple #[.string (lineB p), .bool p.2]) ∧ w' = w := by
  have hsz : (pieceB p).size = (fullL p).length := by rw [← bl_len]; rfl
  have hb : bl (pieceB p) = fullL p := rfl
  have hpos : 0 < (fullL p).length := by
    rcases h with h | ⟨h, h2, _⟩
    · unfold fullL; rw [if_pos h]; simp
    · unfold fullL; rw [h2]; exact List.length_pos_iff.2 h
  have e1 : ((pieceB p).extract ((pieceB p).size - 1) (pieceB p).size).toList = (fullL p).drop ((fullL p).length - 1) := by
    rw [toList_bl, ssub, hb, hsz]
  have HC := Lib.hid (strl_CutSuffix (pieceB p) (lineB p) p.2 w (by omega) (by omega) (by
    rw [e1]
    obtain ⟨x, b⟩ := p
    rcases h with h | ⟨h, h2, h3⟩
    · dsimp only at h
      subst h
      simp [fullL]
    · dsimp only at h h2 h3
      subst h2
      show (x.drop (x.length - 1) == [10]) = false
      obtain ⟨y, c, rfl⟩ : ∃ y c, x = y ++ [c] := ⟨x.dropLast, x.getLast h, (List.dropLast_concat_getLast h).symm⟩
      have hc := h3 c (by simp)
      simp [hc]) (by
    obtain ⟨x, b⟩ := p
    cases b with
    | false => rfl
    | true =>
      rw [if_pos rfl]
      refine bl_inj.1 ?_
      rw [bl_extract, hb, hsz]
      simp [fullL, lineB]))
  generalize pieceB p = s at *
  generalize lineB p = t at *
  generalize p.2 = r at *
  clear e1 hb h
  go_enter Tryd.func33, Tryd.ntmps33
  go_wp2_with fail
  refine HC.out.mono ?_
  rintro e w1 ⟨rfl, rfl⟩
  go_wp2
  exact bodyPost_ret (v := .tuple #[.string t, .bool r]) (by simp [results, Tryd.results33, go_sem]) rfl ⟨rfl, rfl⟩
theorem str_Lines (s : ByteArray) (w : World) : Calls Tryd.prog 32 #[.string s] w fun e w' => e = .returned (.func (.func 66) #[] #[.pointer (some ⟨w.heap.size, 0, none⟩)]) ∧ w' = w.alloc (.cells #[.string s] 9) := by
  go_enter Tryd.func32, Tryd.ntmps32
  go_wp2
  go_ret
  exact ⟨rfl, rfl⟩
def leftL (b : Nat) (W : World) : Nat := match W.cell? ⟨b, 0, none⟩ with
  | some (.string s) => s.size
  | _ => 0
theorem leftL_of {b : Nat} {W : World} {s : ByteArray} {t : TypeId} (h : Boxed W b t (.string s)) : leftL b W = s.size := by unfold leftL; rw [h.cell]
theorem boxed_heap {b : Nat} {W W' : World} {v : Value} {t : TypeId} (h : Boxed W b t v) (e : W'.heap[b]? = W.heap[b]?) : Boxed W' b t v := e.trans h
theorem drop_cons {α : Type} {L : List α} {k : Nat} {x : α} {xs : List α} (h : L.drop k = x :: xs) (d : α) : k < L.length ∧ L.getD k d = x ∧ L.drop (k + 1) = xs := by
  have hk : k < L.length := by
    refine Nat.lt_of_not_le fun hle => ?_
    rw [List.drop_eq_nil_of_le hle] at h
    exact absurd h (by simp)
  rw [List.drop_eq_getElem_cons hk] at h
  obtain ⟨h1, h2⟩ := List.cons.inj h
  exact ⟨hk, by rw [List.getD_eq_getElem?_getD, List.getElem?_eq_getElem hk]; exact h1, h2⟩
def pieceK (text : ByteArray) (k : Nat) : ByteArray := pieceB ((linesP (bl text)).getD k ([], false))
set_option maxRecDepth 100000 in
set_option maxHeartbeats 4000000 in
theorem lines_seq (text : ByteArray) (b : Nat) (w : World) (hB : Boxed w b 9 (.string text)) (hz : text.size ≤ 1000000) :
    SeqC Tryd.prog 66 #[.pointer (some ⟨b, 0, none⟩)] (fun k => #[.string (pieceK text k)]) b (linesP (bl text)).length w := fun l J W hW hz0 hJs hJd hY h0 => by
  show CallsIn Fence.wide 3 Tryd.prog 66 #[.func (.yield l) #[] #[], .pointer (some ⟨b, 0, none⟩)] W _
  have hBW := boxed_heap hB hW
  obtain ⟨L, hL⟩ : ∃ L, L = linesP (bl text) := ⟨_, rfl⟩
  rw [← hL] at hY ⊢
  refine callsIn_of_wp Tryd.func66 rfl trivial ?_ rfl
  simp only [Tryd.ntmps66, List.size_toArray, List.length_cons, List.length_nil, Nat.reduceAdd, Nat.reduceSub, Array.replicate_succ, Array.replicate_zero, List.push_toArray, List.append_toArray, List.nil_append, List.cons_append]
  gi_wp2
  gi_loopw [3] (fun v wr => ∃ (k : Nat) (s : ByteArray) , Boxed wr b 9 (.string s) ∧ linesP (bl s) = L.drop k ∧ k ≤ L.length ∧ s.size ≤ 1000000 ∧ J k wr) (fun _ wr => leftL b wr)
  case atStart =>
    exact ⟨0, text, hBW, hL.symm, Nat.zero_le _, hz, h0⟩
  case round =>
    obtain ⟨k, s, hb, hs, hk, hsz, hJ⟩ := hrel
    have hc := hb.cell
    have hf := hb.frozen
    by_cases hpos : 0 < s.size
    · have IB := Lib.hid (fun W => Tryd.strings_IndexByte s 10 W)
      rw [show ((10 : Int).toNat.toUInt8 : UInt8) = 10 from rfl] at IB
      have hne : bl s ≠ [] := fun e => by have := congrArg List.length e; rw [bl_len, List.length_nil] at this; omega
      have hge := Lib.indexByte_ge (bl s) 10
      by_cases h1 : Lib.indexByte (bl s) 10 = -1
      · have hst := lines_step h1 hne
        rw [h1] at IB
        rw [hst] at hs
        obtain ⟨hk1, hk2, hk3⟩ := drop_cons hs.symm ([], false)
        have hp : pieceK text k = s := by unfold pieceK; rw [← hL, hk2]; exact bl_inj.1 rfl
        have hbz := hb.set (.string ⟨#[]⟩)
        obtain ⟨fn, tmps, assign, body, hy, hR⟩ := hY k _ (hJs k wr (.string ⟨#[]⟩) hJ) hk1
        try dsimp only at hy
        rw [hp] at hy
        clear hge hst hp
        gi_wp2_with (refine ⟨trivial, ?_⟩; gi_at_call 67; refine (callsIn_wide.2 (IB.out _)).mono ?_; rintro e w' ⟨rfl, rfl⟩)
        refine hR.mono ?_
        rintro e W3 ⟨rfl, hJ3, hk4⟩
        gi_wp2
        go_roundw
        case rel => exact ⟨k + 1, ⟨#[]⟩, boxed_heap hbz hk4, hk3.symm, by omega, by decide, hJ3⟩
        case measure => rw [leftL_of (boxed_heap hbz hk4), leftL_of hb]; exact hpos
      · obtain ⟨o, ho⟩ : ∃ o : Nat, Lib.indexByte (bl s) 10 = o := ⟨(Lib.indexByte (bl s) 10).toNat, by omega⟩
        obtain ⟨hst, hlt, htk⟩ := lines_step1 ho
        rw [ho] at IB
        rw [hst] at hs
        rw [bl_len] at hlt
        obtain ⟨hk1, hk2, hk3⟩ := drop_cons hs.symm ([], false)
        have hp : pieceK text k = s.extract 0 (o + 1) := by
          unfold pieceK
          rw [← hL, hk2]
          refine bl_inj.1 ?_
          rw [bl_extract, List.drop_zero, htk]
          rfl
        have hrs : bl (s.extract (o + 1) s.size) = (bl s).drop (o + 1) := ssub s (o + 1)
        have hrz : (s.extract (o + 1) s.size).size < s.size := by rw [← bl_len, hrs, List.length_drop, bl_len]; omega
        have d0 : decide ((0 : Int) ≤ (o : Int)) = true := decide_eq_true (by omega)
        have dx : (o : Int) + 1 ≤ (s.size : Int) := by omega
        have hwr : IntKind.i64.wrap ((o : Int) + 1) = (o : Int) + 1 := Go.IntWalk.i64_in _ (by omega)
        have d1 : (0 : Int) ≤ (o : Int) + 1 := by omega
        have d2 : ((o : Int) + 1).toNat = o + 1 := by omega
        clear hge hst htk
        gi_wp2_with (refine ⟨trivial, ?_⟩; gi_at_call 67; refine (callsIn_wide.2 (IB.out _)).mono ?_; rintro e w' ⟨rfl, rfl⟩)
        refine wpIn_wide.2 ?_
        refine wp_region_last (S := (fun W => W.cell? ⟨b, 0, none⟩ = some (.string s))) 9 (by kernel_rfl) hc (fun hHeld => ?_)
        have hbk : Boxed w'.drew b 9 (.string s) := hb
        have hJk := hJd _ _ hJ
        obtain ⟨wk, hwk⟩ : ∃ W, W = w'.drew := ⟨_, rfl⟩
        rw [← hwk] at hbk hJk hHeld ⊢
        have hc := hbk.cell
        have hf := hbk.frozen
        clear hwk
        (refine lyes 0 ?_); (refine lyes 1 ?_); (refine lyes 2 ?_); (refine lyes 3 ?_); (refine lyes 4 ?_); (refine lyes 5 ?_); (refine lyes 6 ?_); (refine lyes 7 ?_); (refine lyes 8 ?_); (try simp only [Act.put, List.setIfInBounds_toArray, List.set])
        (refine last_end 9 rfl (by kernel_rfl) (by kernel_rfl) (fun K hK => ?_); go_simp)
        refine hK.out _ _ ?_
        clear hK K
        have hbz := hbk.set (.string (s.extract (o + 1) s.size))
        obtain ⟨fn, tmps, assign, body, hy, hR⟩ := hY k _ (hJs k wk (.string (s.extract (o + 1) s.size)) hJk) hk1
        try dsimp only at hy
        rw [hp] at hy
        gi_wp2
        refine hR.mono ?_
        rintro e W3 ⟨rfl, hJ3, hk4⟩
        gi_wp2
        go_roundw
        case rel => exact ⟨k + 1, _, boxed_heap hbz hk4, by rw [hrs]; exact hk3.symm, by omega, by omega, hJ3⟩
        case measure => rw [leftL_of (boxed_heap hbz hk4), leftL_of hb]; exact hrz
    · obtain rfl : s = emp := bl_inj.1 (List.eq_nil_of_length_eq_zero (by rw [bl_len]; omega))
      have hk2 : k = L.length := by
        have := congrArg List.length hs
        rw [List.length_drop, show linesP (bl emp) = [] from rfl, List.length_nil] at this
        omega
      subst hk2
      have he : emp.size = 0 := rfl
      gi_wp2
      go_end0
      exact ⟨⟨_, rfl⟩, hJ⟩
theorem mem_getD {α : Type} {L : List α} {k : Nat} {d : α} (h : k < L.length) : L.getD k d ∈ L := by
  rw [List.getD_eq_getElem?_getD, List.getElem?_eq_getElem h]; exact List.getElem_mem h
theorem lines_snoc {L : List (List UInt8 × Bool)} {k : Nat} (h : k < L.length) : (L.take (k + 1)).map lineB = (L.take k).map lineB ++ [lineB (L.getD k ([], false))] := by
  rw [List.take_succ_eq_append_getElem h, List.map_append, List.getD_eq_getElem?_getD, List.getElem?_eq_getElem h]
  rfl
theorem own_baseL {w : World} {base base' size n : Nat} {e : TypeId} {v : Value} {xs : List Value} (h : w.ownsRow base e size v n xs) (hb : base' ≤ base) : w.ownsRow base' e size v n xs := by
  rcases h.2 with h2 | ⟨g, cap, cur, h1, h2, h3⟩
  · exact ⟨h.1, .inl h2⟩
  · exact ⟨h.1, .inr ⟨g, cap, cur, h1, Nat.le_trans hb h2, h3⟩⟩
def LinesI (L : List (List UInt8 × Bool)) (w : World) (k : Nat) (W : World) : Prop :=
  (∃ v, Boxed W w.heap.size 22 v ∧ W.ownsRow (w.heap.size + 2) 9 1 v k (strs ((L.take k).map lineB))) ∧ Below w.heap.size w W ∧ w.heap.size + 2 ≤ W.heap.size
attribute [local go_sem] Oper.semAt_some
set_option maxRecDepth 100000 in
set_option maxHeartbeats 4000000 in
theorem scan_Lines (s : ByteArray) (w : World) (hz : s.size ≤ 1000000) :
    Calls Tryd.prog 7 #[.string s] w fun e w' => ∃ v, e = .returned v ∧ w'.ownsRow w.heap.size 9 1 v (linesB s).length (strs (linesB s)) ∧ Below w.heap.size w w' := by
  obtain ⟨L, hL⟩ : ∃ L, L = linesP (bl s) := ⟨_, rfl⟩
  have hLn : L.length ≤ 1000000 := by rw [hL]; have := lines_len (bl s); rw [bl_len] at this; omega
  obtain ⟨i0, hi, hz0, hz1, hz2⟩ := info_parts str_info
  refine (callsIn_wide (n := 4)).1 ?_
  refine callsIn_of_wp_marks Tryd.func7 rfl trivial ?_ rfl
  simp only [Tryd.ntmps7, List.size_toArray, List.length_cons, List.length_nil, Nat.reduceAdd, Nat.reduceSub, Array.replicate_succ, Array.replicate_zero, List.push_toArray, List.append_toArray, List.nil_append, List.cons_append]
  gi_wp2_with (refine ⟨trivial, ?_⟩; gi_at_call 32; refine (callsIn_wide.2 (str_Lines s _)).mono ?_; rintro e w' ⟨rfl, rfl⟩)
  have bO := Boxed.new w 22 (.slice none 0 0)
  have bN := Boxed.new (w.alloc (.cells #[.slice none 0 0] 22)) 9 (.string s)
  rw [World.size_alloc] at bN
  have hB0 : Below w.heap.size w ((w.alloc (.cells #[.slice none 0 0] 22)).alloc (.cells #[.string s] 9)) := ((Below.refl _ w).alloc (Nat.le_refl _) _).alloc (by simp) _
  have hsz : ((w.alloc (.cells #[.slice none 0 0] 22)).alloc (.cells #[.string s] 9)).heap.size = w.heap.size + 2 := by simp
  have bO2 := bO.alloc (.cells #[.string s] 9)
  obtain ⟨W0, hW0⟩ : ∃ W0, W0 = (w.alloc (.cells #[.slice none 0 0] 22)).alloc (.cells #[.string s] 9) := ⟨_, rfl⟩
  rw [← hW0] at bN hB0 hsz bO2 ⊢
  clear bO hW0
  have hseq := lines_seq s (w.heap.size + 1) W0 bN hz
  rw [← hL] at hseq
  refine rangeFunc_cell (gf := 66) (lb := #[.pointer (some ⟨w.heap.size + 1, 0, none⟩)]) rfl (enters_of Tryd.func66 (by kernel_rfl) rfl) (w.heap.size + 1) L.length
    (fun k => #[.string (pieceK s k)]) (by omega) hseq (fun _ => rfl) (LinesI L w) ?hIp ?hIa ?hIs ?hId ?h0
    (fun k => { tmps := #[.string s, undef, .pointer (some ⟨w.heap.size, 0, none⟩), .string (pieceK s k), undef, undef, .string s, .func (.func 66) #[] #[.pointer (some ⟨w.heap.size + 1, 0, none⟩)], .string (pieceK s k), undef, undef, undef, undef, undef, undef, undef, undef, undef, undef], defers := [] }) ?assign ?body ?done
  case hIp =>
    rintro k A r o o' ⟨⟨v, hv, hr⟩, hb, hA⟩ hle ho hc
    exact ⟨⟨v, hv.kept (grownBy_putObj' A r o') (fun e => by have := Option.some.inj e; omega), ownsRow_putObj hr o' ho hc⟩, hb.grown (grownBy_putObj' A r o') hb.size (fun j e => by cases e; omega), by simp; exact hA⟩
  case hIa =>
    rintro k A o ⟨⟨v, hv, hr⟩, hb, hA⟩
    exact ⟨⟨v, hv.alloc o, hr.alloc o⟩, hb.alloc hb.size o, by simp; omega⟩
  case hIs =>
    rintro k A v' ⟨⟨v, hv, hr⟩, hb, hA⟩
    have hg := grownBy_setCell' A (w.heap.size + 1) v'
    exact ⟨⟨v, hv.kept hg (fun e => by have := Option.some.inj e; omega), hr.kept hg (.inr (fun e => by have := (hr.lt _ e).1; omega))⟩, hb.setCell (p := ⟨w.heap.size + 1, 0, none⟩) (by simp) v', by have := hg.size; omega⟩
  case hId =>
    rintro k A ⟨⟨v, hv, hr⟩, hb, hA⟩
    exact ⟨⟨v, hv, hr.drew⟩, below_drew hb, hA⟩
  case h0 => exact ⟨⟨_, bO2, World.ownsRow_nil _ _ _ _⟩, hB0, by omega⟩
  case assign =>
    intro l k W K hK
    gi_wp2
    exact hK
  case body =>
    rintro l k W ⟨⟨v, hv, hr⟩, hb, hA⟩ hk
    have hp := lines_cut_of (l := bl s) (k := k) (by rw [← hL]; exact hk)
    rw [← hL] at hp
    have hpz : (fullL (L.getD k ([], false))).length ≤ 1000000 := by
      have h1 := lines_size (bl s) (L.getD k ([], false)) (by rw [← hL]; exact mem_getD hk)
      rw [bl_len] at h1
      omega
    have HC := Lib.hid (fun W => str_CutNl (L.getD k ([], false)) W (by omega) hp)
    rw [show pieceB (L.getD k ([], false)) = pieceK s k by rw [hL]; rfl] at HC
    have hsn := lines_snoc hk
    have hcv := hv.cell
    have hcf := hv.frozen
    generalize pieceK s k = pk at *
    generalize lineB (L.getD k ([], false)) = ln at *
    generalize (L.getD k ([], false)).2 = fl at *
    clear hp hpz
    have hle : w.heap.size ≤ W.heap.size := hb.size
    gi_wp2_with (first
      | (refine ⟨trivial, ?_⟩; gi_at_call 33; refine (CallsIn.inRound l (callsIn_wide.2 (HC.out _))).mono ?_; rintro e w' ⟨rfl, rfl⟩)
      | (gi_at_builtin
         refine wpListIn_append_own _ rfl _ _ 22 rfl (w.heap.size + 2) 9 i0 (.string ByteArray.empty) 1 16 Tryd.underlying22 hi hz0 hz1 hz2 rfl (by decide) _ _ _ rfl (hr.alloc _) ⟨_, 0, none⟩ 1 1 [.string ln] rfl rfl (cell_one_new _ _ _) (by simp [Value.oneCell']) (by simp only [maxLen]; omega) (by omega) (by simp; omega) ?_
         intro v' w1 hown' hgrow _
         obtain ⟨g', cap', rfl⟩ := ownsRow_succ hown'
         obtain ⟨hv1, hv2, hr2, hk2, hb2⟩ := hv.appended (by decide) (own_baseL hr (show w.heap.size ≤ w.heap.size + 2 by omega)) hle (Nat.le_refl _) (own_baseL hown' (show w.heap.size ≤ w.heap.size + 2 by omega)) hgrow
         have hc1 := hv1.cell
         have hf1 := hv1.frozen))
    have hst := grownBy_setCell' w1 w.heap.size (.slice (some ⟨g', 0, none⟩) (k + 1) cap')
    have hnb : some (w.heap.size + 1) ≠ v.ownBlock := fun e => by have := (hr.lt _ e.symm).1; omega
    refine ⟨hk2, ?_, ⟨_, hv2, ?_⟩, hb.trans hb2, by have := hb2.size; omega⟩
    · refine (Below.heap_setCell _ _ _ _ (by show w.heap.size + 1 ≠ w.heap.size; omega)).trans ((hgrow.block _ (by simp; omega) hnb).trans (Below.heap_alloc _ _ _ (by omega)))
    · rw [hsn, show strs ((L.take k).map lineB ++ [ln]) = strs ((L.take k).map lineB) ++ [.string ln] by simp [strs]]
      exact hown'.kept hst (.inr (hv1.not_row (by decide) (own_baseL hown' (show w.heap.size ≤ w.heap.size + 2 by omega))).symm)
  case done =>
    rintro D W hD ⟨⟨v, hv, hr⟩, hb, hA⟩ hK
    have HL2 := Lib.hid (show linesB s = L.map lineB by unfold linesB; rw [hL])
    clear hL hseq bN bO2
    have hcv := hv.cell
    have hcf := hv.frozen
    rw [List.take_length] at hr
    obtain ⟨va, vc, rfl⟩ := own_form hr
    have hK3 := (KeepsOthers.setCell W ⟨w.heap.size, 0, none⟩ (.slice va L.length vc)).same D _ hK rfl
    have hv3 := hv.set (.slice va L.length vc)
    have hb3 := hb.setCell (p := ⟨w.heap.size, 0, none⟩) (Nat.le_refl _) (.slice va L.length vc)
    have hr3 := hr.kept (grownBy_setCell' W w.heap.size (.slice va L.length vc)) (.inr (fun e => by have := (hr.lt _ e).1; omega))
    have hR := ownsRow_putObj hr3 (.deferred none) hK3 rfl
    have hB := hb3.trans (belowK_b (w := w) (Nat.le_refl _) _ D _ (.deferred none) (by omega) hK3 rfl rfl)
    have hV := hv3.kept (grownBy_putObj' _ D (.deferred none)) (fun e => by have := Option.some.inj e; omega)
    have hc4 := hV.cell
    clear hv3 hr3 hb3
    gi_wp2
    refine ⟨by simp, .inl ⟨_, _, rfl, run_takeDeferred hK3, ?_⟩⟩
    refine ⟨.slice va L.length vc, by simp [results, Tryd.results7, go_sem, hc4], _, rfl, ?_, hB⟩
    rw [HL2.out, List.length_map]
    exact own_baseL hR (by omega)
end Go.Proofs.YtedkkegjiikcmaaDoor
namespace Go.Proofs.YtedkkegjiikcmaaDoor
open Go.RowKit Go.Shelf

theorem scan_bare (s : ByteArray) (w : World) (hs : s.size < 4294967281) (hg : Gl w) :
    Calls Tryd.prog 35 #[.string s] w fun e w' => e = .returned (.string ⟨(bare (bl s)).toArray⟩) ∧ ∃ n, w' = w.drewN n := by
  obtain ⟨m, hm⟩ := hg
  have hcon := Tryd.strings_Cut s ⟨#[35]⟩ m w hs hm
  rw [show (⟨#[35]⟩ : ByteArray).data.toList = [35] from rfl, cut_bare] at hcon
  generalize (Lib.cut s.data.toList [35]).2.1 = x at hcon
  generalize (Lib.cut s.data.toList [35]).2.2 = y at hcon
  generalize bare (bl s) = r at hcon ⊢
  have H := Lib.hid hcon
  clear hcon hm
  go_enter Tryd.func35, Tryd.ntmps35
  go_wp2_with (go_at_call 39; refine H.out.mono ?_; rintro e w' ⟨rfl, n, rfl⟩)
  go_ret
  exact ⟨rfl, n, rfl⟩

set_option maxHeartbeats 400000 in
theorem scan_word (s : ByteArray) (a : Nat) (w : World) (hs : s.size ≤ 9223372036854775) (ha : a ≤ s.size) :
    Calls Tryd.prog 100 #[.string s, .int .i64 a] w fun e w' => e = .returned (.int .i64 (wordOf ((bl s).drop a)).length) ∧ w = w' := by
  go_enter Tryd.func100, Tryd.ntmps100
  go_wp2
  go_loop [5] (fun i => ∃ k : Nat, a + k ≤ s.size ∧ i = .int .i64 k ∧ ∀ c ∈ ((bl s).drop a).take k, alnum c = true) (fun i => s.size - (intOf i).toNat)
  case atStart => exact ⟨0, by omega, rfl, by simp⟩
  case round =>
    obtain ⟨k, hk, rfl, hal⟩ := hrel
    have HA := Lib.hid hal
    clear hal
    have hlen : k ≤ ((bl s).drop a).length := by rw [List.length_drop, bl_len]; omega
    by_cases hlt : a + k < s.size
    · have hc := bl_at s a k hlt
      have hb := bl_A s (a + k) hlt
      have HC := Lib.hid (names_IsPrin ({ data := #[65] } ++ s.extract (a + k) (a + k + 1)) w (by rw [size_A s _ hlt]; omega))
      cases hx : alnum s[a + k] with
      | true =>
        have HM := Lib.hid (word_more _ _ _ HA.out hc hx)
        have HB := Lib.hid ((congrArg (isP 65 90) hb).trans ((isP_A _).trans hx))
        clear hc hb hx hlen
        go_wp2_with (go_at_call 88; refine HC.out.mono ?_; rw [HB.out]; rintro e w' ⟨rfl, rfl⟩)
        exact ⟨⟨k + 1, by omega, by go_num, HM.out⟩, by simp [intOf]; omega⟩
      | false =>
        have HM := Lib.hid (word_stop _ _ HA.out hlen (fun c h => by rw [hc] at h; cases h; exact hx))
        have HB := Lib.hid ((congrArg (isP 65 90) hb).trans ((isP_A _).trans hx))
        clear hc hb hx hlen
        go_wp2_with (go_at_call 88; refine HC.out.mono ?_; rw [HB.out]; rintro e w' ⟨rfl, rfl⟩)
        go_ret
        exact ⟨ret_int (by rw [HM.out]), rfl⟩
    · have HM := Lib.hid (word_stop _ _ HA.out hlen (fun _ h => by rw [bl_at_end s a k hlt] at h; cases h))
      clear hlen
      go_wp2
      go_ret
      exact ⟨ret_int (by rw [HM.out]), rfl⟩


set_option maxHeartbeats 1000000 in
theorem scan_one (s : ByteArray) (a : Nat) (w : World) (hs : s.size ≤ 9223372036854775) (ha : a < s.size) :
    Calls Tryd.prog 76 #[.string s, .int .i64 a] w fun e w' => e = .returned (.agg (oneTok ((bl s).drop a) a).cells.toArray) ∧ Below w.heap.size w w' := by
  have hd := bl_drop s a ha
  have HP := Lib.hid (fun W => Tryd.strings_HasPrefix (s.extract a s.size) ⟨#[60, 45]⟩ W)
  have HW := Lib.hid (fun W => scan_word s a W hs (by omega))
  have h0 : 0 ≤ (s[a].toNat : Int) := by omega
  have HX := Lib.hid (str_eq (bl_one s a ha))
  by_cases h46 : s[a].toNat = 46
  · have e : (oneTok ((bl s).drop a) a) = ⟨3, [s[a]], a + 1⟩ := by rw [hd]; simp [oneTok, h46]
    have b46 : ((s[a].toNat : Int) == 46) = true := by rw [beq_iff_eq]; omega
    have E := Lib.hid e
    clear e hd h46
    go_enter Tryd.func76, Tryd.ntmps76
    go_wp2_with fail
    refine bodyPost_ret (v := .agg #[.int .i64 3, .string (s.extract a (a + 1)), .int .i64 (a + 1)]) (by simp [results, Tryd.results76, go_sem]) rfl ⟨?_, ?_⟩
    · rw [E.out, HX.out]; rfl
    · exact ((Below.refl _ _).alloc (Nat.le_refl _) _).alloc (by simp) _
  · have b46 : ((s[a].toNat : Int) == 46) = false := by rw [beq_eq_false_iff_ne]; omega
    by_cases h38 : s[a].toNat = 38
    · have e : (oneTok ((bl s).drop a) a) = ⟨5, [s[a]], a + 1⟩ := by rw [hd]; simp [oneTok, h38]
      have b38 : ((s[a].toNat : Int) == 38) = true := by rw [beq_iff_eq]; omega
      have E := Lib.hid e
      clear e hd h46 h38
      go_enter Tryd.func76, Tryd.ntmps76
      go_wp2_with fail
      refine bodyPost_ret (v := .agg #[.int .i64 5, .string (s.extract a (a + 1)), .int .i64 (a + 1)]) (by simp [results, Tryd.results76, go_sem]) rfl ⟨?_, ?_⟩
      · rw [E.out, HX.out]; rfl
      · exact ((Below.refl _ _).alloc (Nat.le_refl _) _).alloc (by simp) _
    · have b38 : ((s[a].toNat : Int) == 38) = false := by rw [beq_eq_false_iff_ne]; omega
      cases hp : Lib.hasPrefix (s.extract a s.size).data.toList [60, 45] with
      | true =>
        have hp' : [60, 45].isPrefixOf ((bl s).drop a) = true := by rw [← ssub s a]; exact hp
        have e : (oneTok ((bl s).drop a) a) = ⟨4, [60, 45], a + 1⟩ := by rw [hd] at hp' ⊢; simp only [oneTok, h46, h38, hp', if_false, if_true]
        have E := Lib.hid e
        have HH := Lib.hid hp
        clear e hd h46 h38 hp hp'
        go_enter Tryd.func76, Tryd.ntmps76
        go_wp2_with (go_at_call 99; refine (HP.out _).mono ?_; rw [show Lib.hasPrefix (s.extract a s.size).data.toList (⟨#[60, 45]⟩ : ByteArray).data.toList = true from HH.out]; rintro e w' ⟨rfl, rfl⟩)
        refine bodyPost_ret (v := .agg #[.int .i64 4, .string ⟨#[60, 45]⟩, .int .i64 (a + 1)]) (by simp [results, Tryd.results76, go_sem]) rfl ⟨?_, ?_⟩
        · rw [E.out]; rfl
        · exact ((Below.refl _ _).alloc (Nat.le_refl _) _).alloc (by simp) _
      | false =>
        have hp' : [60, 45].isPrefixOf ((bl s).drop a) = false := by rw [← ssub s a]; exact hp
        have HL := sword_le s a (by omega)
        have HS := Lib.hid (str_eq (sword s a))
        have HH := Lib.hid hp
        by_cases hb : 65 ≤ (s[a].toNat : Int) ∧ (s[a].toNat : Int) ≤ 90
        · obtain ⟨hb1, hb2⟩ := hb
          have e : (oneTok ((bl s).drop a) a) = ⟨1, wordOf ((bl s).drop a), a + 1⟩ := by
            have hbt : btw s[a].toNat 65 90 = true := by simp [btw]; omega
            rw [hd] at hp' ⊢; simp only [oneTok, h46, h38, hp', hbt, if_false, if_true]; rfl
          have E := Lib.hid e
          clear e hd h46 h38 hp hp'
          generalize hn : (wordOf ((bl s).drop a)).length = n at HW HL HS
          clear hn
          go_enter Tryd.func76, Tryd.ntmps76
          go_wp2_with (first | (go_at_call 99; refine (HP.out _).mono ?_; rw [show Lib.hasPrefix (s.extract a s.size).data.toList (⟨#[60, 45]⟩ : ByteArray).data.toList = false from HH.out]; rintro e w' ⟨rfl, rfl⟩) | (go_at_call 100; refine (HW.out _).mono ?_; rintro e w' ⟨rfl, rfl⟩))
          refine bodyPost_ret (v := .agg #[.int .i64 1, .string (s.extract a (a + n)), .int .i64 (a + 1)]) (by simp [results, Tryd.results76, go_sem]) rfl ⟨?_, ?_⟩
          · rw [E.out, HS.out]; rfl
          · exact ((Below.refl _ _).alloc (Nat.le_refl _) _).alloc (by simp) _
        · have hbt : btw s[a].toNat 65 90 = false := by simp [btw]; omega
          have hnb : 65 ≤ (s[a].toNat : Int) → 90 < (s[a].toNat : Int) := by omega
          by_cases hc : 97 ≤ (s[a].toNat : Int) ∧ (s[a].toNat : Int) ≤ 122
          · obtain ⟨hc1, hc2⟩ := hc
            have hb1 : 65 ≤ (s[a].toNat : Int) := by omega
            have hb2 : 90 < (s[a].toNat : Int) := by omega
            have e : (oneTok ((bl s).drop a) a) = ⟨2, wordOf ((bl s).drop a), a + 1⟩ := by
              have hct : btw s[a].toNat 97 122 = true := by simp [btw]; omega
              rw [hd] at hp' ⊢; simp only [oneTok, h46, h38, hp', hbt, hct, if_false, if_true]; rfl
            have E := Lib.hid e
            clear e hd h46 h38 hp hp' hbt hnb
            generalize hn : (wordOf ((bl s).drop a)).length = n at HW HL HS
            clear hn
            go_enter Tryd.func76, Tryd.ntmps76
            go_wp2_with (first | (go_at_call 99; refine (HP.out _).mono ?_; rw [show Lib.hasPrefix (s.extract a s.size).data.toList (⟨#[60, 45]⟩ : ByteArray).data.toList = false from HH.out]; rintro e w' ⟨rfl, rfl⟩) | (go_at_call 100; refine (HW.out _).mono ?_; rintro e w' ⟨rfl, rfl⟩))
            refine bodyPost_ret (v := .agg #[.int .i64 2, .string (s.extract a (a + n)), .int .i64 (a + 1)]) (by simp [results, Tryd.results76, go_sem]; decide) rfl ⟨?_, ?_⟩
            · rw [E.out, HS.out]; rfl
            · exact ((Below.refl _ _).alloc (Nat.le_refl _) _).alloc (by simp) _
          · have e : (oneTok ((bl s).drop a) a) = ⟨0, [s[a]], a + 1⟩ := by
              have hct : btw s[a].toNat 97 122 = false := by simp [btw]; omega
              rw [hd] at hp' ⊢; simp only [oneTok, h46, h38, hp', hbt, hct, if_false, Bool.false_eq_true]
            have E := Lib.hid e
            clear e hd h46 h38 hp hp' hbt
            by_cases hb1 : 65 ≤ (s[a].toNat : Int)
            · have hb2 := hnb hb1
              clear hnb
              by_cases hc1 : 97 ≤ (s[a].toNat : Int)
              · have hc2 : 122 < (s[a].toNat : Int) := by omega
                clear hc
                go_enter Tryd.func76, Tryd.ntmps76
                go_wp2_with (first | (go_at_call 99; refine (HP.out _).mono ?_; rw [show Lib.hasPrefix (s.extract a s.size).data.toList (⟨#[60, 45]⟩ : ByteArray).data.toList = false from HH.out]; rintro e w' ⟨rfl, rfl⟩) | (go_at_call 100; refine (HW.out _).mono ?_; rintro e w' ⟨rfl, rfl⟩))
                refine bodyPost_ret (v := .agg #[.int .i64 0, .string (s.extract a (a + 1)), .int .i64 (a + 1)]) (by simp [results, Tryd.results76, go_sem]) rfl ⟨?_, ?_⟩
                · rw [E.out, HX.out]; rfl
                · exact ((Below.refl _ _).alloc (Nat.le_refl _) _).alloc (by simp) _
              · clear hc
                go_enter Tryd.func76, Tryd.ntmps76
                go_wp2_with (first | (go_at_call 99; refine (HP.out _).mono ?_; rw [show Lib.hasPrefix (s.extract a s.size).data.toList (⟨#[60, 45]⟩ : ByteArray).data.toList = false from HH.out]; rintro e w' ⟨rfl, rfl⟩) | (go_at_call 100; refine (HW.out _).mono ?_; rintro e w' ⟨rfl, rfl⟩))
                refine bodyPost_ret (v := .agg #[.int .i64 0, .string (s.extract a (a + 1)), .int .i64 (a + 1)]) (by simp [results, Tryd.results76, go_sem]) rfl ⟨?_, ?_⟩
                · rw [E.out, HX.out]; rfl
                · exact ((Below.refl _ _).alloc (Nat.le_refl _) _).alloc (by simp) _
            · have hc1 : ¬ 97 ≤ (s[a].toNat : Int) := by omega
              clear hnb hc
              go_enter Tryd.func76, Tryd.ntmps76
              go_wp2_with (first | (go_at_call 99; refine (HP.out _).mono ?_; rw [show Lib.hasPrefix (s.extract a s.size).data.toList (⟨#[60, 45]⟩ : ByteArray).data.toList = false from HH.out]; rintro e w' ⟨rfl, rfl⟩) | (go_at_call 100; refine (HW.out _).mono ?_; rintro e w' ⟨rfl, rfl⟩))
              refine bodyPost_ret (v := .agg #[.int .i64 0, .string (s.extract a (a + 1)), .int .i64 (a + 1)]) (by simp [results, Tryd.results76, go_sem]) rfl ⟨?_, ?_⟩
              · rw [E.out, HX.out]; rfl
              · exact ((Below.refl _ _).alloc (Nat.le_refl _) _).alloc (by simp) _
end Go.Proofs.YtedkkegjiikcmaaDoor
namespace Go.Proofs.YtedkkegjiikcmaaDoor
open Go.RowKit Go.Shelf

theorem tok_info : (Tryd.prog.info? 39).map (fun i => (i.zero, i.size, i.bytes)) = some (some (.agg #[.int .i64 0, .string ByteArray.empty, .int .i64 0]), 3, 32) := by kernel_rfl

abbrev tokCells (kd : Int) (X : ByteArray) (co : Int) : List Value := [.int .i64 kd, .string X, .int .i64 co]
theorem tok_one (kd : Int) (X : ByteArray) (co : Int) : ∀ u ∈ tokCells kd X co, u.oneCell' = true := by
  intro u hu; simp at hu; rcases hu with rfl | rfl | rfl <;> rfl

def TokPost (r : List Tok × Int × Int) (w : World) (e : Ending) (w' : World) : Prop :=
  ∃ v, e = .returned (.tuple #[v, .int .i64 r.2.1, .int .i64 r.2.2]) ∧ w'.ownsRow w.heap.size 39 3 v r.1.length (r.1.flatMap Tok.cells) ∧ Below w.heap.size w w'

def TokRel (B : Nat) (w : World) (l : List UInt8) (v i : Value) (wr : World) : Prop :=
  ∃ (k f : Nat) (acc : List Tok), k ≤ l.length ∧ i = .int .i64 k ∧ l.length - k ≤ f ∧ acc.length ≤ k ∧ wr.ownsRow B 39 3 v acc.length (acc.flatMap Tok.cells) ∧
    toks l.length l 0 [] = toks f (l.drop k) k acc ∧ Below B w wr

set_option maxHeartbeats 1000000 in
theorem scan_Tokens (s : ByteArray) (w : World) (hs : s.size ≤ 200) (hg : Gl w) :
    Calls Tryd.prog 37 #[.string s] w (TokPost (tokens (bl s)) w) := by
  have ht : tokens (bl s) = toks (bare (bl s)).length (bare (bl s)) 0 [] := by unfold tokens; rw [if_neg (by rw [bl_len]; omega)]
  have HT := Lib.hid ht
  have HB := Lib.hid (scan_bare s w (by omega) hg)
  have hle := bare_le (bl s)
  rw [bl_len] at hle
  generalize hr : (⟨(bare (bl s)).toArray⟩ : ByteArray) = r at HB
  have hbr : bl r = bare (bl s) := by rw [← hr]
  have hrs : r.size ≤ 200 := by rw [← bl_len, hbr]; omega
  have HR := Lib.hid hbr
  clear hr hbr hle ht hg
  have h200 : decide (200 < (s.size : Int)) = false := by simp; omega
  go_enter Tryd.func37, Tryd.ntmps37
  go_wp2_with (go_at_call 35; refine HB.out.mono ?_; rintro e w' ⟨rfl, n, rfl⟩)
  go_loopw [2, 6] (TokRel w.heap.size w (bl r)) (fun _ i _ => r.size - (intOf i).toNat)
  case atStart => exact ⟨0, (bl r).length, [], by omega, rfl, by omega, by simp, World.ownsRow_nil _ _ _ _, rfl, below_of_drewN n⟩
  case round =>
    obtain ⟨k, f, acc, hk, rfl, hf, hacc, hown, htk, hb⟩ := hrel
    rw [bl_len] at hk hf
    have HK := Lib.hid htk
    clear htk
    by_cases hlt : k < r.size
    · obtain ⟨f, rfl⟩ : ∃ f', f = f' + 1 := ⟨f - 1, by omega⟩
      by_cases h32 : r[k].toNat = 32
      · have b32 : ((r[k].toNat : Int) == 32) = true := by rw [beq_iff_eq]; omega
        have HN := Lib.hid (HK.out.trans (toks_at_space r k f acc hlt h32))
        clear h32
        go_wp2
        exact ⟨⟨k + 1, f, acc, by rw [bl_len]; omega, by go_num, by rw [bl_len]; omega, by omega, hown, HN.out, hb⟩, by simp [intOf]; omega⟩
      · have b32 : ((r[k].toNat : Int) == 32) = false := by rw [beq_eq_false_iff_ne]; omega
        have HO := Lib.hid (fun W => scan_one r k W (by omega) hlt)
        have hroom := oneTok_room ((bl r).drop k) k
        rw [List.length_drop, bl_len] at hroom
        have hbad := toks_at_bad r k f acc hlt h32
        have hlong := toks_at_long r k f acc hlt h32
        have hgo := toks_at_go r k f acc hlt h32
        generalize oneTok ((bl r).drop k) k = t at HO hroom hbad hlong hgo
        obtain ⟨kd, tx, co⟩ := t
        dsimp only at hroom hbad hlong hgo
        simp only [Tok.cells] at HO
        have hX : (⟨tx.toArray⟩ : ByteArray).size = tx.length := by simp [ByteArray.size]
        rw [← hX] at hroom hlong hgo
        generalize hXe : (⟨tx.toArray⟩ : ByteArray) = X at HO hroom hlong hgo
        have HX := Lib.hid hXe
        clear hXe h32 hX
        by_cases hkd : kd = 0
        · have bk : (kd == 0) = true := by rw [beq_iff_eq]; exact hkd
          have HN := Lib.hid (HK.out.trans (hbad hkd))
          clear hbad hlong hgo hroom hkd
          go_wp2_with (go_at_call 76; refine (HO.out _).mono ?_; rintro e w1 ⟨rfl, hb1⟩)
          go_quiet (fail)
          go_wp2
          go_ret3
          rw [HT.out, ← HR.out, HN.out]
          exact ⟨_, rfl, World.ownsRow_nil _ _ _ _, below_drewN ((hb.trans (hb1.mono hb.size)).alloc (Nat.le_trans hb.size hb1.size) _) _⟩
        · have bk : (kd == 0) = false := by rw [beq_eq_false_iff_ne]; exact hkd
          obtain ⟨hr1, hr2⟩ := hroom hkd
          by_cases hl : 8 < X.size
          · have bl8 : decide (8 < (X.size : Int)) = true := by simp; omega
            have HN := Lib.hid (HK.out.trans (hlong hkd hl))
            clear hbad hlong hgo hroom hkd hl
            go_wp2_with (go_at_call 76; refine (HO.out _).mono ?_; rintro e w1 ⟨rfl, hb1⟩)
            go_quiet (fail)
            go_wp2
            go_ret3
            rw [HT.out, ← HR.out, HN.out]
            exact ⟨_, rfl, World.ownsRow_nil _ _ _ _, below_drewN ((hb.trans (hb1.mono hb.size)).alloc (Nat.le_trans hb.size hb1.size) _) _⟩
          · have bl8 : decide (8 < (X.size : Int)) = false := by simp; omega
            have HN := Lib.hid (HK.out.trans (hgo hkd hl))
            clear hbad hlong hgo hroom hkd
            go_wp2_with (first | (go_at_call 76; refine (HO.out _).mono ?_; rintro e w1 ⟨rfl, hb1⟩) | (at_builtin; refine app_own Tryd.underlying35 tok_info rfl (by decide) (by decide) rfl _ _ rfl w.heap.size rfl (((own_below hown hb1).alloc _).alloc _) (tokCells kd X co) rfl (heap_new2 _ _ _) rfl (tok_one _ _ _) ?_ ?_ ?_; omega; (have := hb1.size; have := hb.size; simp; omega); intro a' cap' w2 hown' hgrow; have hcx := grown_cell hown (u := .string X) (g := w1.heap.size) (o := 1) hgrow hb1.size (by simp [go_sem])))
            have hsz := hb1.size
            have hsz0 := hb.size
            refine ⟨⟨k + X.size, f, acc ++ [⟨kd, tx, co⟩], by rw [bl_len]; omega, by go_num, by rw [bl_len]; omega, by simp; omega, ?_, HN.out, ?_⟩, by simp [intOf]; omega⟩
            · rw [List.length_append, List.flatMap_append]
              simp only [List.flatMap_cons, List.flatMap_nil, List.append_nil, Tok.cells, HX.out]
              exact hown'
            · exact (((hb.trans (hb1.mono hsz0)).alloc (by omega) _).alloc (by simp; omega) _).grown hgrow (by simp; omega) (fun g hg => (hown.lt g hg).1)
    · have HN := Lib.hid (HK.out.trans (toks_at_end r k f acc hlt))
      go_wp2
      go_ret3
      rw [HT.out, ← HR.out, HN.out]
      exact ⟨u2, rfl, hown, hb⟩
end Go.Proofs.YtedkkegjiikcmaaDoor
namespace Go.Proofs.YtedkkegjiikcmaaDoor
open Go.RowKit Go.Shelf

theorem bare_stop (s : ByteArray) (k : Nat) (h : ∀ c ∈ (bl s).take k, (!(c == 35)) = true) (hk : k ≤ s.size) (hc : ∀ c, (bl s)[k]? = some c → (!(c == 35)) = false) : bare (bl s) = (bl s).take k := by
  have := (takeWhile_count (fun c => !(c == 35)) (bl s) k).2 ⟨h, by rw [bl_len]; exact hk, hc⟩
  unfold bare
  rw [takeWhile_take, this]

set_option maxHeartbeats 400000 in
theorem ref2_Bare (s : ByteArray) (w : World) (hs : s.size ≤ 9223372036854775807) :
    Calls Tryd.prog 36 #[.string s] w fun e w' => e = .returned (.string ⟨(bare (bl s)).toArray⟩) ∧ w = w' := by
  go_enter Tryd.func36, Tryd.ntmps36
  go_wp2
  go_loop [3] (fun i => ∃ k : Nat, k ≤ s.size ∧ i = .int .i64 k ∧ ∀ c ∈ (bl s).take k, (!(c == 35)) = true) (fun i => s.size - (intOf i).toNat)
  case atStart => exact ⟨0, by omega, rfl, by simp⟩
  case round =>
    obtain ⟨k, hk, rfl, hal⟩ := hrel
    have HA := Lib.hid hal
    clear hal
    by_cases hlt : k < s.size
    · have hat := bl_at s 0 k (by omega)
      simp only [List.drop_zero, Nat.zero_add] at hat
      by_cases h35 : s[k].toNat = 35
      · have b35 : ((s[k].toNat : Int) == 35) = true := by rw [beq_iff_eq]; omega
        have e35 : s[k] = 35 := UInt8.toNat_inj.1 h35
        have hbs := bare_stop s k HA.out hk (fun c h => by rw [hat] at h; cases h; rw [e35]; rfl)
        have hx : bl (s.extract 0 k) = bare (bl s) := by rw [bl_extract, hbs]; simp
        have HX := Lib.hid (str_eq hx)
        clear hat h35 e35 hbs hx
        go_wp2
        go_ret
        exact ⟨ret_s HX.out, rfl⟩
      · have b35 : ((s[k].toNat : Int) == 35) = false := by rw [beq_eq_false_iff_ne]; omega
        have hn : (!(s[k] == 35)) = true := by
          have : s[k] ≠ 35 := fun e => h35 (by rw [e]; rfl)
          simpa using this
        have HM := Lib.hid (show ∀ c ∈ (bl s).take (k + 1), (!(c == 35)) = true from by
          intro x hx
          rw [bl_take s k hlt] at hx
          rcases List.mem_append.1 hx with hx | hx
          · exact HA.out x hx
          · rw [List.mem_singleton.1 hx]; exact hn)
        clear hat h35 hn
        go_wp2
        exact ⟨⟨k + 1, by omega, by go_num, HM.out⟩, by simp [intOf]; omega⟩
    · have hbs := bare_stop s k HA.out hk (fun c h => by rw [List.getElem?_eq_none (by rw [bl_len]; omega)] at h; cases h)
      rw [List.take_of_length_le (by rw [bl_len]; omega)] at hbs
      have HX := Lib.hid (str_eq hbs.symm)
      clear hbs
      go_wp2
      go_ret
      exact ⟨ret_s HX.out, rfl⟩
end Go.Proofs.YtedkkegjiikcmaaDoor
namespace Go.Proofs.YtedkkegjiikcmaaDoor
open Go.RowKit Go.Shelf

def trimT (s : ByteArray) : ByteArray := ⟨(Lib.trimB (bare (bl s)) 32).toArray⟩
theorem trimR_cons (x : UInt8) (r : List UInt8) (c : UInt8) : Lib.trimRightB (x :: r) c = if x = c ∧ Lib.trimRightB r c = [] then [] else x :: Lib.trimRightB r c := by
  unfold Lib.trimRightB
  rw [List.reverse_cons, List.dropWhile_append]
  cases h : List.dropWhile (· == c) r.reverse with
  | nil =>
    by_cases hx : x = c
    · simp [hx]
    · simp [hx]
  | cons y ys => simp
theorem trimR_snoc (l : List UInt8) (x c : UInt8) : Lib.trimRightB (l ++ [x]) c = if x = c then Lib.trimRightB l c else l ++ [x] := by
  unfold Lib.trimRightB
  by_cases h : x = c
  · simp [h]
  · simp [h]
theorem trimL_cons (x : UInt8) (r : List UInt8) (c : UInt8) : Lib.trimLeftB (x :: r) c = if x = c then Lib.trimLeftB r c else x :: r := by
  unfold Lib.trimLeftB
  by_cases h : x = c
  · simp [h]
  · simp [h]
theorem trim_comm (c : UInt8) : ∀ l : List UInt8, Lib.trimLeftB (Lib.trimRightB l c) c = Lib.trimRightB (Lib.trimLeftB l c) c
  | [] => rfl
  | x :: r => by
    rw [trimR_cons, trimL_cons]
    by_cases h : x = c
    · rw [if_pos h]
      by_cases h2 : Lib.trimRightB r c = []
      · rw [if_pos ⟨h, h2⟩, ← trim_comm c r, h2]
      · rw [if_neg (fun e => h2 e.2), trimL_cons, if_pos h]; exact trim_comm c r
    · rw [if_neg (fun e => h e.1), if_neg h, trimL_cons, if_neg h, trimR_cons, if_neg (fun e => h e.1)]
theorem size_zero {s : ByteArray} (h : s.size = 0) : bl s = [] := List.eq_nil_of_length_eq_zero (by rw [bl_len]; exact h)
theorem bl_last {s : ByteArray} {m : Nat} (h : s.size = m + 1) : bl s = (bl s).take m ++ [s[m]'(by omega)] := by
  have hat := bl_at s 0 m (by omega)
  simp only [List.drop_zero, Nat.zero_add] at hat
  have hl : m < (bl s).length := by rw [bl_len]; omega
  rw [List.getElem?_eq_getElem hl] at hat
  have e := List.take_succ_eq_append_getElem hl
  rw [List.take_of_length_le (by rw [bl_len]; omega), Option.some.inj hat] at e
  exact e
theorem bl_first {s : ByteArray} (h : 0 < s.size) : bl s = s[0] :: (bl s).drop 1 := by
  have hat := bl_at s 0 0 h
  simp only [List.drop_zero, Nat.zero_add] at hat
  have hl : 0 < (bl s).length := by rw [bl_len]; omega
  rw [List.getElem?_eq_getElem hl] at hat
  have e := List.drop_eq_getElem_cons hl
  rw [List.drop_zero, Option.some.inj hat] at e
  exact e
def strLenL : Value → Nat
  | .string s => s.size
  | _ => 0
theorem scan_Trim (s : ByteArray) (w : World) (hs : s.size < 4294967281) (hg : Gl w) :
    Calls Tryd.prog 10 #[.string s] w fun e w' => e = .returned (.string (trimT s)) ∧ Below w.heap.size w w' := by
  have HB := Lib.hid (scan_bare s w hs hg)
  have hle := bare_le (bl s)
  rw [bl_len] at hle
  have HT := Lib.hid (fun W => Tryd.strings_Trim_one ⟨(bare (bl s)).toArray⟩ 32 (by decide) W (by simp [ByteArray.size]; omega))
  have E := Lib.hid (show trimT s = ⟨(Lib.trimB ((⟨(bare (bl s)).toArray⟩ : ByteArray).data.toList) 32).toArray⟩ from rfl)
  clear hg
  generalize (⟨(bare (bl s)).toArray⟩ : ByteArray) = b at *
  generalize (⟨(Lib.trimB b.data.toList 32).toArray⟩ : ByteArray) = t at *
  go_enter Tryd.func10, Tryd.ntmps10
  go_wp2_with fail
  refine HB.out.mono ?_
  rintro e w1 ⟨rfl, n, rfl⟩
  go_wp2_with fail
  refine (HT.out _).mono ?_
  rintro e w2 ⟨rfl, hw2⟩
  have hb : Below w.heap.size w w2 := by
    rcases hw2 with rfl | rfl
    · exact below_of_drewN n
    · exact below_drew (below_of_drewN n)
  clear hw2
  go_wp2
  go_ret
  exact ⟨ret_s E.out.symm, hb⟩
set_option maxRecDepth 100000 in
set_option maxHeartbeats 2000000 in
theorem ref2_Trim (s : ByteArray) (w : World) (hs : s.size ≤ 9223372036854775807) :
    Calls Tryd.prog 11 #[.string s] w fun e w' => e = .returned (.string (trimT s)) ∧ w' = w := by
  have HB := Lib.hid (ref2_Bare s w hs)
  have hle := bare_le (bl s)
  rw [bl_len] at hle
  have E := Lib.hid (show bl (trimT s) = Lib.trimRightB (Lib.trimLeftB (bare (bl s)) 32) 32 from trim_comm 32 _)
  have hz : (⟨(bare (bl s)).toArray⟩ : ByteArray).size ≤ 9223372036854775807 := by simp [ByteArray.size]; omega
  rw [show bare (bl s) = bl (⟨(bare (bl s)).toArray⟩ : ByteArray) from rfl] at E
  generalize (⟨(bare (bl s)).toArray⟩ : ByteArray) = b at *
  generalize trimT s = r at *
  clear hle
  go_enter Tryd.func11, Tryd.ntmps11
  go_wp2_with fail
  refine HB.out.mono ?_
  rintro e w1 ⟨rfl, hw1⟩
  have HW := Lib.hid hw1.symm
  clear hw1
  go_wp2_with fail
  go_loopw [3] (fun v wr => ∃ s : ByteArray, v = .string s ∧ Hid (wr = w) ∧ s.size ≤ 9223372036854775807 ∧ Hid (Lib.trimRightB (Lib.trimLeftB (bl s) 32) 32 = bl r)) (fun v _ => strLenL v)
  case atStart => exact ⟨b, rfl, HW, hz, Lib.hid E.out.symm⟩
  case round =>
    clear E HB hz HW
    obtain ⟨s, rfl, HW, hsz, HR⟩ := hrel
    by_cases h0 : s.size = 0
    · have hn : ¬ 0 < s.size := by omega
      have HR := Lib.hid (show Lib.trimRightB (bl s) 32 = bl r by rw [← HR.out, size_zero h0]; rfl)
      clear h0
      go_wp2_with fail
      go_loopw [3] (fun v wr => ∃ s : ByteArray, v = .string s ∧ Hid (wr = w) ∧ s.size ≤ 9223372036854775807 ∧ Hid (Lib.trimRightB (bl s) 32 = bl r)) (fun v _ => strLenL v)
      case atStart => exact ⟨s, rfl, HW, hsz, HR⟩
      case round =>
        clear HR hsz HW
        obtain ⟨s, rfl, HW, hsz, HR⟩ := hrel
        by_cases h0 : s.size = 0
        · have hn : ¬ 0 < s.size := by omega
          have HE := Lib.hid (show s = r by rw [← bl_inj, ← HR.out, size_zero h0]; rfl)
          clear h0 HR
          go_wp2_with fail
          go_ret
          exact ⟨ret_s HE.out, HW.out⟩
        · obtain ⟨m, hm⟩ : ∃ m, s.size = m + 1 := ⟨s.size - 1, by omega⟩
          have hlt : m < s.size := by omega
          have hw1 : IntKind.i64.wrap ((s.size : Int) - 1) = (m : Int) := by rw [show (s.size : Int) - 1 = (m : Int) by omega]; exact Go.IntWalk.i64_in _ (by omega)
          have d0 : decide ((0 : Int) < (s.size : Int)) = true := decide_eq_true (by omega)
          have hl := bl_last hm
          by_cases h32 : s[m].toNat = 32
          · have b32 : ((s[m].toNat : Int) == 32) = true := by rw [beq_iff_eq]; omega
            have HN := Lib.hid (show Lib.trimRightB (bl (s.extract 0 m)) 32 = bl r by rw [← HR.out, hl, trimR_snoc, if_pos (UInt8.toNat_inj.1 h32), bl_extract, List.drop_zero])
            have hz2 : (s.extract 0 m).size = m := by rw [ByteArray.size_extract]; omega
            clear h32 h0 HR hl
            go_wp2_with fail
            exact ⟨⟨_, rfl, HW, by omega, HN⟩, by simp only [strLenL]; omega⟩
          · have b32 : ((s[m].toNat : Int) == 32) = false := by rw [beq_eq_false_iff_ne]; omega
            have HE := Lib.hid (show s = r by rw [← bl_inj, ← HR.out, hl, trimR_snoc, if_neg (fun e => h32 (by rw [e]; rfl))])
            clear h32 h0 HR hl
            go_wp2_with fail
            go_ret
            exact ⟨ret_s HE.out, HW.out⟩
    · have hpos : 0 < s.size := by omega
      have d0 : decide ((0 : Int) < (s.size : Int)) = true := decide_eq_true (by omega)
      have hf := bl_first hpos
      by_cases h32 : s[0].toNat = 32
      · have b32 : ((s[0].toNat : Int) == 32) = true := by rw [beq_iff_eq]; omega
        have HN := Lib.hid (show Lib.trimRightB (Lib.trimLeftB (bl (s.extract 1 s.size)) 32) 32 = bl r by rw [← HR.out, hf, trimL_cons, if_pos (UInt8.toNat_inj.1 h32), ssub])
        have hz2 : (s.extract 1 s.size).size = s.size - 1 := by rw [ByteArray.size_extract]; omega
        have d1 : (1 : Int) ≤ (s.size : Int) := by omega
        clear h32 h0 HR hf
        go_wp2_with fail
        exact ⟨⟨_, rfl, HW, by omega, HN⟩, by simp only [strLenL]; omega⟩
      · have b32 : ((s[0].toNat : Int) == 32) = false := by rw [beq_eq_false_iff_ne]; omega
        have HR := Lib.hid (show Lib.trimRightB (bl s) 32 = bl r by rw [← HR.out, hf, trimL_cons, if_neg (fun e => h32 (by rw [e]; rfl))])
        clear h32 h0 hf
        go_wp2_with fail
        go_loopw [3] (fun v wr => ∃ s : ByteArray, v = .string s ∧ Hid (wr = w) ∧ s.size ≤ 9223372036854775807 ∧ Hid (Lib.trimRightB (bl s) 32 = bl r)) (fun v _ => strLenL v)
        case atStart => exact ⟨s, rfl, HW, hsz, HR⟩
        case round =>
          clear HR hsz HW
          obtain ⟨s, rfl, HW, hsz, HR⟩ := hrel
          by_cases h0 : s.size = 0
          · have hn : ¬ 0 < s.size := by omega
            have HE := Lib.hid (show s = r by rw [← bl_inj, ← HR.out, size_zero h0]; rfl)
            clear h0 HR
            go_wp2_with fail
            go_ret
            exact ⟨ret_s HE.out, HW.out⟩
          · obtain ⟨m, hm⟩ : ∃ m, s.size = m + 1 := ⟨s.size - 1, by omega⟩
            have hlt : m < s.size := by omega
            have hw1 : IntKind.i64.wrap ((s.size : Int) - 1) = (m : Int) := by rw [show (s.size : Int) - 1 = (m : Int) by omega]; exact Go.IntWalk.i64_in _ (by omega)
            have d0 : decide ((0 : Int) < (s.size : Int)) = true := decide_eq_true (by omega)
            have hl := bl_last hm
            by_cases h32 : s[m].toNat = 32
            · have b32 : ((s[m].toNat : Int) == 32) = true := by rw [beq_iff_eq]; omega
              have HN := Lib.hid (show Lib.trimRightB (bl (s.extract 0 m)) 32 = bl r by rw [← HR.out, hl, trimR_snoc, if_pos (UInt8.toNat_inj.1 h32), bl_extract, List.drop_zero])
              have hz2 : (s.extract 0 m).size = m := by rw [ByteArray.size_extract]; omega
              clear h32 h0 HR hl
              go_wp2_with fail
              exact ⟨⟨_, rfl, HW, by omega, HN⟩, by simp only [strLenL]; omega⟩
            · have b32 : ((s[m].toNat : Int) == 32) = false := by rw [beq_eq_false_iff_ne]; omega
              have HE := Lib.hid (show s = r by rw [← bl_inj, ← HR.out, hl, trimR_snoc, if_neg (fun e => h32 (by rw [e]; rfl))])
              clear h32 h0 HR hl
              go_wp2_with fail
              go_ret
              exact ⟨ret_s HE.out, HW.out⟩
set_option maxRecDepth 100000 in
set_option maxHeartbeats 4000000 in
theorem ref2_Lines (s : ByteArray) (w : World) (hs : s.size ≤ 1000000) :
    Calls Tryd.prog 9 #[.string s] w fun e w' => ∃ v, e = .returned v ∧ w'.ownsRow w.heap.size 9 1 v (linesB s).length (strs (linesB s)) ∧ Below w.heap.size w w' := by
  have E := Lib.hid (show linesB s = (linesP (bl s)).map lineB from rfl)
  generalize linesB s = res at *
  go_enter Tryd.func9, Tryd.ntmps9
  go_wp2_with fail
  go_loopw [3, 4, 5] (fun vo vf vi wr => ∃ (D : List (List UInt8 × Bool)) (f i : Nat), vf = .int .i64 f ∧ vi = .int .i64 i ∧ f ≤ i ∧ i ≤ s.size ∧ D.length ≤ i ∧ Hid (linesP (bl s) = D ++ linesP ((bl s).drop f)) ∧ Hid (∀ k, f ≤ k → k < i → (bl s)[k]? ≠ some 10) ∧ Hid (wr.ownsRow w.heap.size 9 1 vo D.length (strs (D.map lineB))) ∧ Hid (Below w.heap.size w wr)) (fun _ _ vi _ => s.size - (intOf vi).toNat)
  case atStart => exact ⟨[], 0, 0, rfl, rfl, Nat.le_refl _, Nat.zero_le _, Nat.le_refl _, Lib.hid (by simp), Lib.hid (fun k _ h => by omega), Lib.hid (World.ownsRow_nil _ _ _ _), Lib.hid (Below.refl _ _)⟩
  case round =>
    obtain ⟨D, f, i, rfl, rfl, hfi, his, hDi, HL, HN, HO, HB⟩ := hrel
    obtain ⟨a, c, rfl⟩ := own_form HO.out
    have hsz : w.heap.size ≤ wr.heap.size := HB.out.size
    by_cases hlt : i < s.size
    · have hat := bl_at s 0 i (by omega)
      simp only [List.drop_zero, Nat.zero_add] at hat
      by_cases h10 : s[i].toNat = 10
      · have b10 : ((s[i].toNat : Int) == 10) = true := by rw [beq_iff_eq]; omega
        have e10 : s[i] = 10 := UInt8.toNat_inj.1 h10
        have hst := lines_at ((bl s).drop f) (i - f) (fun k hk => by rw [List.getElem?_drop]; exact HN.out (f + k) (by omega) (by omega)) (by rw [List.getElem?_drop, show f + (i - f) = i by omega, hat, e10])
        have hx : lineB (((bl s).drop f).take (i - f), true) = s.extract f i := bl_inj.1 (by rw [bl_extract, List.drop_take]; rfl)
        have HL2 := Lib.hid (show linesP (bl s) = (D ++ [(((bl s).drop f).take (i - f), true)]) ++ linesP ((bl s).drop (i + 1)) by
          rw [HL.out, hst, List.drop_drop, show f + (i - f + 1) = i + 1 by omega]; simp)
        have HR := Lib.hid (show strs ((D ++ [(((bl s).drop f).take (i - f), true)]).map lineB) = strs (D.map lineB) ++ [.string (s.extract f i)] by rw [List.map_append, List.map_cons, List.map_nil, hx]; simp [strs])
        have hdl : (D ++ [(((bl s).drop f).take (i - f), true)]).length = D.length + 1 := by simp
        have d1 : (f : Int) ≤ (i : Int) := by omega
        have d2 : (i : Int) ≤ (s.size : Int) := by omega
        generalize D ++ [(((bl s).drop f).take (i - f), true)] = D2 at *
        clear hat h10 e10 hst hx HL HN
        go_wp2_with (at_builtin; refine halt_ ?_)
        unfold Halt_
        refine app_own Tryd.underlying22 str_info rfl (by decide) (by decide) rfl _ _ rfl w.heap.size rfl (HO.out.alloc _) [.string (s.extract f i)] rfl (heap_new1 _ _) rfl (str1 _) (by omega) (by simp; omega) ?_
        intro a8 c8 w8 hown8 hg8
        have HB8 := Lib.hid (below_own (HB.out.alloc hsz _) (HO.out.alloc _) hg8 (by simp; omega) (Nat.le_refl _))
        have HO8 := Lib.hid (show w8.ownsRow w.heap.size 9 1 (.slice a8 (D.length + 1) c8) D2.length (strs (D2.map lineB)) by rw [hdl, HR.out]; exact hown8)
        clear hown8 hg8
        go_wp2_with fail
        exact ⟨⟨D2, i + 1, i + 1, by go_num, by go_num, Nat.le_refl _, by omega, by omega, HL2, Lib.hid (fun k h1 h2 => by omega), HO8, HB8⟩, by simp [intOf]; omega⟩
      · have b10 : ((s[i].toNat : Int) == 10) = false := by rw [beq_eq_false_iff_ne]; omega
        have HN2 := Lib.hid (show ∀ k, f ≤ k → k < i + 1 → (bl s)[k]? ≠ some 10 from fun k h1 h2 => by
          by_cases hk : k < i
          · exact HN.out k h1 hk
          · obtain rfl : k = i := by omega
            rw [hat]
            intro e
            exact h10 (by rw [Option.some.inj e]; rfl))
        clear hat h10 HN
        go_wp2_with fail
        exact ⟨⟨D, f, i + 1, rfl, by go_num, by omega, by omega, by omega, HL, HN2, HO, HB⟩, by simp [intOf]; omega⟩
    · obtain rfl : i = s.size := by omega
      by_cases hf : f < s.size
      · have hne : (bl s).drop f ≠ [] := fun e => by have := congrArg List.length e; rw [List.length_drop, bl_len, List.length_nil] at this; omega
        have hst := lines_end ((bl s).drop f) (fun k => by
          rw [List.getElem?_drop]
          by_cases hk : f + k < s.size
          · exact HN.out (f + k) (by omega) hk
          · rw [List.getElem?_eq_none (by rw [bl_len]; omega)]; exact fun e => by cases e) hne
        have hx : lineB ((bl s).drop f, false) = s.extract f s.size := bl_inj.1 (by rw [ssub]; rfl)
        have HR := Lib.hid (show strs res = strs (D.map lineB) ++ [.string (s.extract f s.size)] by rw [E.out, HL.out, hst, List.map_append, List.map_cons, List.map_nil, hx]; simp [strs])
        have hrl : res.length = D.length + 1 := by rw [E.out, HL.out, hst]; simp
        have d1 : (f : Int) ≤ (s.size : Int) := by omega
        clear hne hst hx HL HN E
        go_wp2_with (at_builtin; refine halt_ ?_)
        unfold Halt_
        refine app_own Tryd.underlying22 str_info rfl (by decide) (by decide) rfl _ _ rfl w.heap.size rfl (HO.out.alloc _) [.string (s.extract f s.size)] rfl (heap_new1 _ _) rfl (str1 _) (by omega) (by simp; omega) ?_
        intro a8 c8 w8 hown8 hg8
        have HB8 := Lib.hid (below_own (HB.out.alloc hsz _) (HO.out.alloc _) hg8 (by simp; omega) (Nat.le_refl _))
        have HO8 := Lib.hid (show w8.ownsRow w.heap.size 9 1 (.slice a8 (D.length + 1) c8) res.length (strs res) by rw [hrl, HR.out]; exact hown8)
        clear hown8 hg8
        go_wp2
        go_ret
        exact ⟨_, rfl, HO8.out, HB8.out⟩
      · have HR := Lib.hid (show res = D.map lineB by rw [E.out, HL.out, List.drop_eq_nil_of_le (by rw [bl_len]; omega)]; simp [linesP])
        have hrl : res.length = D.length := by rw [HR.out, List.length_map]
        clear HL HN E
        go_wp2_with fail
        go_ret
        exact ⟨_, rfl, by rw [hrl, HR.out]; exact HO.out, HB.out⟩
end Go.Proofs.YtedkkegjiikcmaaDoor
namespace Go.Proofs.YtedkkegjiikcmaaDoor
open Go.RowKit Go.Shelf

end Go.Proofs.YtedkkegjiikcmaaDoor
namespace Go.Proofs.YtedkkegjiikcmaaDoor
open Go.RowKit Go.Shelf

theorem tok_cell {w : World} {b off : Nat} {l : List Tok} (h : ∀ j u, (l.flatMap Tok.cells)[j]? = some u → w.cell? ⟨b, off + j, none⟩ = some u) (k : Nat) (hk : k < l.length) :
    w.cell? ⟨b, off + k * 3, none⟩ = some (.int .i64 l[k].kind) ∧ w.cell? ⟨b, off + k * 3 + 1, none⟩ = some (.string ⟨l[k].text.toArray⟩) ∧ w.cell? ⟨b, off + k * 3 + 2, none⟩ = some (.int .i64 l[k].col) := by
  have hx : l[k]? = some l[k] := List.getElem?_eq_getElem hk
  have h0 := h _ _ ((flat_get Tok.cells 3 Tok.cells_len l k 0 (by omega) _ hx).trans rfl)
  have h1 := h _ _ ((flat_get Tok.cells 3 Tok.cells_len l k 1 (by omega) _ hx).trans rfl)
  have h2 := h _ _ ((flat_get Tok.cells 3 Tok.cells_len l k 2 (by omega) _ hx).trans rfl)
  exact ⟨h0, h1, h2⟩

end Go.Proofs.YtedkkegjiikcmaaDoor
namespace Go.Proofs.YtedkkegjiikcmaaDoor
open Go.RowKit Go.Shelf

theorem sb_size : (Tryd.prog.info? 89).map (·.size) = some 2 := by kernel_rfl
theorem sb_lies : liesAt Tryd.prog Tryd.prog.depth 89 (2 / Tryd.prog.cellsOf 89) 0 89 1 = true := by kernel_rfl
theorem sb_byte : (Tryd.prog.info? 5).map (fun i => (i.zero, i.size, i.bytes)) = some (some (.int .u8 0), 1, 1) := by kernel_rfl

set_option maxRecDepth 100000 in
set_option maxHeartbeats 1000000 in
theorem sb_copyCheck_used (b : Nat) (w : World) (h0 : w.cell? ⟨b, 0, none⟩ = some (.pointer (some ⟨b, 0, none⟩))) :
    Calls Tryd.prog 101 #[.pointer (some ⟨b, 0, none⟩)] w fun e w' => e = .returned (.tuple #[]) ∧ w' = w := by
  obtain ⟨j, hj, _⟩ := Option.map_eq_some_iff.1 sb_size
  go_enter Tryd.func101, Tryd.ntmps101
  go_wp2
  rw [Lib.run_neq_ptr_same w _ Tryd.underlying86 hj]
  go_wp2
  go_end0
  exact ⟨rfl, rfl⟩

set_option maxRecDepth 100000 in
set_option maxHeartbeats 1000000 in
theorem sb_copyCheck_fresh (b : Nat) (w : World) (h0 : w.cell? ⟨b, 0, none⟩ = some (.pointer none)) (hsh : w.shape? b = some (89, 2)) (hfz : w.frozen? ⟨b, 0, none⟩ = false) :
    Calls Tryd.prog 101 #[.pointer (some ⟨b, 0, none⟩)] w fun e w' => e = .returned (.tuple #[]) ∧ w' = w.setCell ⟨b, 0, none⟩ (.pointer (some ⟨b, 0, none⟩)) := by
  obtain ⟨j, hj, hjs⟩ := Option.map_eq_some_iff.1 sb_size
  go_enter Tryd.func101, Tryd.ntmps101
  go_wp2
  rw [Lib.run_to_unsafe w ⟨b, 0, none⟩ Tryd.underlying86 Tryd.underlying116 hj (by rw [hjs]; decide) hsh (Nat.zero_lt_succ 1)]
  simp only [Result.andThen]
  rw [Oper.upon_value]
  go_wp2
  rw [run_callFunc_extern Tryd.func119 (by kernel_rfl) (by kernel_rfl) (by kernel_rfl) (e := Extern.AbiNoEscape.same) (by kernel_rfl)]
  rw [Lib.run_noEscape]
  simp only [Result.andThen]
  rw [Oper.upon_value]
  go_wp2
  rw [Lib.run_from_unsafe w ⟨b, 0, none⟩ Tryd.underlying116 Tryd.underlying86 hj hsh sb_lies]
  simp only [Result.andThen]
  rw [Oper.upon_value]
  go_wp2
  go_end0
  exact ⟨rfl, rfl⟩

abbrev SbAt (B b : Nat) (l : List UInt8) (w : World) : Prop := Lib.IsBuilderF 89 5 B b (Lib.byteCells l) w

theorem sb_copyCheck (B b : Nat) (bs : List Value) (w : World) (h : Lib.IsBuilderF 89 5 B b bs w) :
    Calls Tryd.prog 101 #[.pointer (some ⟨b, 0, none⟩)] w fun e w' => e = .returned (.tuple #[]) ∧ (Lib.BuilderAtF 89 5 B b (.pointer (some ⟨b, 0, none⟩)) bs w' ∧ Below B w w' ∧ Lib.OthersKept 5 (some b) w w') := by
  rcases h with h | h
  · refine (sb_copyCheck_fresh b w h.cell0 h.shape h.frozen0).mono ?_
    rintro e w' ⟨rfl, rfl⟩
    exact ⟨rfl, h.used _, (Below.refl B w).setCell (p := ⟨b, 0, none⟩) h.1 _, (Lib.OthersKept.refl _ _ w).setCell ⟨b, 0, none⟩ rfl _⟩
  · refine (sb_copyCheck_used b w h.cell0).mono ?_
    rintro e w' ⟨rfl, rfl⟩
    exact ⟨rfl, h, Below.refl B _, Lib.OthersKept.refl _ _ _⟩

theorem strCells_eq (s : ByteArray) : Lib.strCells s = Lib.byteCells (bl s) := rfl

set_option maxHeartbeats 2000000 in
set_option maxRecDepth 100000 in
theorem sb_WriteString (B b : Nat) (l : List UInt8) (s : ByteArray) (w : World) (h : SbAt B b l w) (hlen : l.length + s.size ≤ 140737488355328) (hBw : B ≤ w.heap.size) :
    Calls Tryd.prog 77 #[.pointer (some ⟨b, 0, none⟩), .string s] w fun e w' => e = .returned (.tuple #[.int .i64 s.size, .nilIface]) ∧ (SbAt B b (l ++ bl s) w' ∧ Below B w w' ∧ Lib.OthersKept 5 (some b) w w') := by
  obtain ⟨i0, hi, hz0, hz1, hz2⟩ := info_parts sb_byte
  have hlen' : (Lib.byteCells l).length + s.size ≤ 140737488355328 := by simpa [Lib.byteCells] using hlen
  have H := Lib.hid h
  have HL := Lib.hid hlen'
  clear h hlen hlen'
  go_enter Tryd.func77, Tryd.ntmps77
  go_wp2_with (go_at_call 101; refine (sb_copyCheck B b _ _ H.out).mono ?_)
  rintro e w1 ⟨rfl, h1, hb1, hk1⟩
  obtain ⟨hB, v, hbk, hown, hne⟩ := h1
  have c0 : w1.cell? ⟨b, 0, none⟩ = some (.pointer (some ⟨b, 0, none⟩)) := by rw [Lib.cell_of_heap hbk]; rfl
  have c1 : w1.cell? ⟨b, 1, none⟩ = some v := by rw [Lib.cell_of_heap hbk]; rfl
  go_wp2_with (at_builtin; refine Lib.wpList_append_own_stringF _ rfl _ _ 87 9 rfl B 5 i0 Tryd.underlying87 Tryd.underlying9 hi hz0 hz1 hz2 _ _ _ rfl hown s rfl ?c3 ?c4 ?c5 ?_)
  case c3 => have := HL.out; unfold maxLen; omega
  case c4 => exact HL.out
  case c5 => have := hb1.size; omega
  intro v' w2 hown' hgrow _
  have hlt : b < w1.heap.size := by
    rcases Nat.lt_or_ge b w1.heap.size with h' | h'
    · exact h'
    · simp [Array.getElem?_eq_none h'] at hbk
  have hb2 : w2.heap[b]? = some (.cells #[.pointer (some ⟨b, 0, none⟩), v] 89 (0, 0)) := by
    rw [hgrow.block b hlt (fun e => hne e.symm)]
    exact hbk
  have d0 : w2.cell? ⟨b, 0, none⟩ = some (.pointer (some ⟨b, 0, none⟩)) := by rw [Lib.cell_of_heap hb2]; rfl
  have d1 : w2.cell? ⟨b, 1, none⟩ = some v := by rw [Lib.cell_of_heap hb2]; rfl
  have f1 : w2.frozen? ⟨b, 1, none⟩ = false := Lib.frozen_of_heap hb2 1
  obtain ⟨ao, n', cap, rfl⟩ : ∃ ao n' cap, v' = .slice ao n' cap := by
    rcases hown'.2 with ⟨hv, _⟩ | ⟨g, cap, cur, fz, hv, _⟩
    · exact ⟨_, _, _, hv⟩
    · exact ⟨_, _, _, hv⟩
  go_wp2
  go_ret2
  refine ⟨rfl, ?_, ?_, (hk1.grown hgrow (Lib.ownsRowF_kind hown)).setCell ⟨b, 1, none⟩ rfl _⟩
  · have e1 : Lib.byteCells (l ++ bl s) = Lib.byteCells l ++ Lib.strCells s := by rw [strCells_eq]; simp [Lib.byteCells]
    unfold SbAt
    rw [e1]
    exact .inr (Lib.BuilderAtF.put (T := 89) (e := 5) hB hb2 (bs' := Lib.byteCells l ++ Lib.strCells s) (by simpa [Lib.strCells_length] using hown') (by decide))
  · exact (hb1.grown hgrow (by have := hb1.size; omega) (fun k hk => (hown.lt k hk).1)).setCell (p := ⟨b, 1, none⟩) hB _
theorem kept_cell {b : Nat} {w w' : World} (h : Lib.OthersKept 5 (some b) w w') {g o : Nat} {cs : Array Value} {t : TypeId} {u : Value} (hg : w.heap[g]? = some (.cells cs t (0, 0))) (hne : g ≠ b) (ht : t ≠ 5) (hu : cs[o]? = some u) :
    w'.cell? ⟨g, o, none⟩ = some u := by
  have h1 := h g _ hg (by simpa using hne) (fun c fz e => ht (by injection e))
  rw [cell_of_row w' g o cs t (0, 0) h1]
  exact hu
theorem sb_alloc {B b : Nat} {l : List UInt8} {w : World} (h : SbAt B b l w) (o : Obj) : SbAt B b l (w.alloc o) := h.elim (fun x => .inl (x.alloc o)) (fun x => .inr (x.alloc o))
theorem sb_lt {B b : Nat} {l : List UInt8} {w : World} (h : SbAt B b l w) : b < w.heap.size := h.elim (fun x => x.lt) (fun x => x.lt)
theorem sb_new (w : World) (B : Nat) (hB : B ≤ w.heap.size) : SbAt B w.heap.size [] (w.alloc (.cells #[.pointer none, .slice none 0 0] 89)) :=
  .inl ⟨hB, .slice none 0 0, heap_new1 _ _, ⟨by simp [Lib.byteCells], .inl ⟨rfl, rfl⟩⟩, by simp [Value.ownBlock]⟩
end Go.Proofs.YtedkkegjiikcmaaDoor
