/- A range over a function whose iterator keeps its state in one cell of its own: what the iterator promises, and the statement's law (a body that never leaves the loop). delta.kind: which mark a line begins with; strings.CutPrefix; slices.Backward at texts. A region that draws its order and ends in a store into a cell that it loads: what is loaded is held up to the last operation, which waits for all others. Two rows of the call's own, side by side, while one of them grows. Plain laws: the bits of a word, and rows of numbers in order. -/
import Derived.RangeFuncNested
import Derived.RangeFuncBound
import Derived.RangeFuncCalls
import Derived.RangeFuncLeaves
import Derived.Shelf.Abstract
import Derived.Shelf.RegionOpen
import Derived.WalkKit
import Derived.OwnWalkIn
import Derived.TacticsInMore
import Derived.LoopNIn
import Derived.LoopIn
import Derived.Test.YtomhekohcadijaaGreatDoorPartRF34
import Derived.Test.YtomhekohcadijaaGreatDoorShelf
import Derived.RangeFuncWrites
import Derived.Test.YtomhekohcadijaaGreatDoorPartRF16
import Derived.Test.YtomhekohcadijaaGreatDoorPartRF27
import Derived.Lib.TrailingZeros
import Derived.Laws.Bits64b
import Derived.WalkSmall
namespace Go.Proofs.YtomhekohcadijaaGreatDoor
open Go.RowKit Go.Shelf

def SeqC (P : Program) (g : Nat) (lb : Array Value) (encs : Nat → Array Value) (b N : Nat) (w : World) : Prop :=
  ∀ (l : Nat) (J : Nat → World → Prop) (W : World), W.heap[b]? = w.heap[b]? → w.heap.size ≤ W.heap.size →
    (∀ k A v, J k A → J k (A.setCell ⟨b, 0, none⟩ v)) → (∀ k A, J k A → J k A.drew) →
    (∀ k A, J k A → k < N → YieldAt Fence.wide 2 P l (encs k) A fun e A' => e = .returned (.bool true) ∧ J (k + 1) A' ∧ A'.heap[b]? = A.heap[b]?) →
    J 0 W → CallsIn Fence.wide 3 P g (#[.func (.yield l) #[] #[]] ++ lb) W fun e W' => (∃ v, e = .returned v) ∧ J N W'
def goesOn (R : World → Prop) : Exit → Act → World → Prop
  | .normal, _, W => R W
  | _, _, _ => False
theorem rangeFunc_cell {P : Program} {g : Operand} {ps : Array Tmp} {assign body : Code} {Q : Exit → Act → World → Prop} {a : Act} {w : World} {gf : Nat} {lb : Array Value}
    (hg : a.eval g = .func (.func gf) #[] lb) (eg : ∀ args w, (callFunc gf args).run P w = .ok (.enter gf args) w) (b N : Nat) (encs : Nat → Array Value) (hb : b < w.heap.size)
    (hseq : SeqC P gf lb encs b N w) (hps : ∀ k, (encs k).size = ps.size) (I : Nat → World → Prop)
    (hIp : ∀ k A r o o', I k A → w.heap.size ≤ r → A.heap[r]? = some o → o.isCells = false → I k (A.putObj r o')) (hIa : ∀ k A o, I k A → I k (A.alloc o))
    (hIs : ∀ k A v, I k A → I k (A.setCell ⟨b, 0, none⟩ v)) (hId : ∀ k A, I k A → I k A.drew) (h0 : I 0 w) (a₁ : Nat → Act)
    (hassign : ∀ (l k : Nat) (W : World) (K : Act → World → Prop), K (a₁ k) W →
      assign.wpIn (Fence.wide.inRound l) 2 P (Exit.then K (fun _ _ _ => False)) { tmps := (ps.zip (encs k)).foldl (fun t (p, v) => t.setIfInBounds p v) a.tmps, defers := [] } W)
    (hbody : ∀ (l k : Nat) (W : World), I k W → k < N → body.wpIn (Fence.wide.inRound l) 2 P (goesOn fun W' => KeepsOthers W W' ∧ W'.heap[b]? = W.heap[b]? ∧ I (k + 1) W') (a₁ k) W)
    (hdone : ∀ (D : Nat) (W : World), w.heap.size ≤ D → I N W → W.heap[D]? = some (.deferred (some [])) → Q .normal { a with defers := { target := .collected D, args := #[] } :: a.defers } W) :
    (Code.rangeFunc g ps assign body).wpIn Fence.wide 4 P Q a w := by
  refine wpIn_rangeFunc fun fn hfn => ?_
  obtain ⟨rc, hrc⟩ : ∃ rc : LoopState → Loop, rc = fun st => { state := st, pending := none, fn, tmps := a.tmps, params := ps, assign, body, defers := w.heap.size } := ⟨_, rfl⟩
  obtain ⟨W1, hW1⟩ : ∃ W1, W1 = (w.alloc (.deferred (some []))).alloc (.loop (rc .ready)) := ⟨_, rfl⟩
  obtain ⟨d, hd⟩ : ∃ d, d = w.heap.size := ⟨_, rfl⟩
  have hL1 : W1.heap[d + 1]? = some (.loop (rc .ready)) := by
    have := World.alloc_heap_new (w.alloc (.deferred (some []))) (.loop (rc .ready))
    rw [hW1, hd]
    rwa [World.size_alloc] at this
  have hK1 : W1.heap[d]? = some (.deferred (some [])) := by
    rw [hW1, hd]; exact (Below.heap_alloc _ _ _ (by simp)).trans (World.alloc_heap_new w _)
  have hB1 : W1.heap[b]? = w.heap[b]? := by
    rw [hW1]; exact (Below.heap_alloc _ _ _ (by simp; omega)).trans (Below.heap_alloc _ _ _ hb)
  have hz : w.heap.size ≤ W1.heap.size := by rw [hW1]; simp; omega
  have hI1 : I 0 W1 := by rw [hW1]; exact hIa _ _ _ (hIa _ _ _ h0)
  refine ⟨d + 1, [{ target := .collected d, args := #[] }], W1, { target := .fn (.func gf) lb, args := #[.func (.yield (d + 1)) #[] #[]] }, W1, gf,
    #[.func (.yield (d + 1)) #[] #[]] ++ lb, W1, ?_, ?_, fun _ _ => trivial, ?_, fun _ => by decide, ?_⟩
  · rw [hW1, hrc, hd]; exact run_enterLoop_outer _ _ _ _ _
  · simp only [resolve, hg]
    simp [go_sem]
  · simp [invoke, go_sem, eg]
  have far : ∀ (A : World) (v : Value) (r : Nat), d ≤ r → (A.setCell ⟨b, 0, none⟩ v).heap[r]? = A.heap[r]? := fun A v r hr => Below.heap_setCell _ _ _ _ (by show r ≠ b; omega)
  refine (hseq (d + 1) (fun k A => I k A ∧ A.heap[d + 1]? = some (.loop (rc .ready)) ∧ A.heap[d]? = some (.deferred (some []))) W1 hB1 hz
    (fun k A v h => ⟨hIs _ _ _ h.1, (far _ _ _ (by omega)).trans h.2.1, (far _ _ _ (by omega)).trans h.2.2⟩) (fun k A h => ⟨hId _ _ h.1, h.2.1, h.2.2⟩) ?_ ⟨hI1, hL1, hK1⟩).mono ?_
  · rintro k A ⟨hi, hl, hk⟩ hkN
    have hlt : d + 1 < A.heap.size := (Array.getElem?_eq_some_iff.1 hl).1
    have hy := run_yield (P := P) (args := encs k) hl (by rw [hrc]; exact hps k)
    rw [hrc] at hy
    obtain ⟨A2, hA2⟩ : ∃ A2, A2 = A.putObj (d + 1) (.loop { rc .ready with state := .busy }) := ⟨_, rfl⟩
    have hl2 : A2.heap[d + 1]? = some (.loop { rc .ready with state := .busy }) := by rw [hA2]; exact World.putObj_heap_same hlt
    have hk2 : A2.heap[d]? = some (.deferred (some [])) := by rw [hA2]; exact (World.putObj_heap_other (by omega)).trans hk
    have hb2 : A2.heap[b]? = A.heap[b]? := by rw [hA2]; exact World.putObj_heap_other (by omega)
    have hi2 : I k A2 := by rw [hA2]; exact hIp _ _ _ _ _ hi (by omega) hl rfl
    refine ⟨fn, _, assign, body, hy, roundIn_of_wpIn hfn (hassign _ k A _ ⟨A2, by rw [hA2]; exact run_beginRound hl (by rw [hrc]), ?_⟩)⟩
    refine wpIn_mono (hbody _ k A2 hi2 hkN) ?_
    rintro e a3 A3 hp
    cases e with
    | normal =>
      obtain ⟨ho, hb3, hi3⟩ := hp
      have hl3 := ho.same _ _ hl2 rfl
      have hr := run_endRound (P := P) none hl3
      rw [hrc] at hr
      refine ⟨_, _, hr, rfl, ⟨hIp _ _ _ _ _ hi3 (by omega) hl3 rfl, ?_, (World.putObj_heap_other (by omega)).trans (ho.same _ _ hk2 rfl)⟩, (World.putObj_heap_other (by omega)).trans (hb3.trans hb2)⟩
      rw [hrc]
      exact World.putObj_heap_same (Array.getElem?_eq_some_iff.1 hl3).1
    | _ => exact hp.elim
  · rintro e W2 ⟨⟨v, rfl⟩, hi, hl, hk⟩
    have hr := run_endLoop (P := P) hl (by rw [hrc]; simp)
    rw [hrc] at hr
    subst hd
    exact ⟨none, _, hr, hdone _ _ (Nat.le_refl _) (hIp _ _ _ _ _ hi (by omega) hl rfl) ((World.putObj_heap_other (by omega)).trans hk)⟩
end Go.Proofs.YtomhekohcadijaaGreatDoor
namespace Go.Proofs.YtomhekohcadijaaGreatDoor
open Go.RowKit Go.Shelf

attribute [local go_sem] Oper.semAt_some

def preB (s m : ByteArray) : Bool := Lib.hasPrefix s.data.toList m.data.toList
theorem preB_le {s m : ByteArray} (h : preB s m = true) : m.size ≤ s.size := by
  unfold preB Lib.hasPrefix at h
  have := (List.isPrefixOf_iff_prefix.1 h).length_le
  have e1 : m.data.toList.length = m.size := by rw [Array.length_toList]; rfl
  have e2 : s.data.toList.length = s.size := by rw [Array.length_toList]; rfl
  omega
theorem strl_CutPrefix (s m : ByteArray) (w : World) (_ : s.size ≤ 9223372036854775807) :
    Calls Tryz.prog 205 #[.string s, .string m] w fun e w' => e = .returned (.tuple #[.string (if preB s m = true then s.extract m.size s.size else s), .bool (preB s m)]) ∧ w' = w := by
  have HP := Lib.hid (Tryz.stringslite_HasPrefix s m w)
  rw [show Lib.hasPrefix s.data.toList m.data.toList = preB s m from rfl] at HP
  have LE := preB_le (s := s) (m := m)
  generalize preB s m = b at *
  cases b with
  | false =>
    clear LE
    go_enter Tryz.func205, Tryz.ntmps205
    go_wp2_with fail
    refine HP.out.mono ?_
    rintro e w1 ⟨rfl, rfl⟩
    go_wp2
    exact bodyPost_ret (v := .tuple #[.string s, .bool false]) (by simp [results, Tryz.results205, go_sem]) rfl ⟨rfl, rfl⟩
  | true =>
    have LE := LE rfl
    go_enter Tryz.func205, Tryz.ntmps205
    go_wp2_with fail
    refine HP.out.mono ?_
    rintro e w1 ⟨rfl, rfl⟩
    go_wp2
    exact bodyPost_ret (v := .tuple #[.string (s.extract m.size s.size), .bool true]) (by simp [results, Tryz.results205, go_sem]) rfl ⟨rfl, rfl⟩
theorem str_CutPrefix (s m : ByteArray) (w : World) (hs : s.size ≤ 9223372036854775807) :
    Calls Tryz.prog 139 #[.string s, .string m] w fun e w' => e = .returned (.tuple #[.string (if preB s m = true then s.extract m.size s.size else s), .bool (preB s m)]) ∧ w' = w := by
  have HC := Lib.hid (strl_CutPrefix s m w hs)
  generalize (if preB s m = true then s.extract m.size s.size else s) = t at *
  generalize preB s m = b at *
  go_enter Tryz.func139, Tryz.ntmps139
  go_wp2_with fail
  refine HC.out.mono ?_
  rintro e w1 ⟨rfl, rfl⟩
  go_wp2
  exact bodyPost_ret (v := .tuple #[.string t, .bool b]) (by simp [results, Tryz.results139, go_sem]) rfl ⟨rfl, rfl⟩

end Go.Proofs.YtomhekohcadijaaGreatDoor
namespace Go.Proofs.YtomhekohcadijaaGreatDoor
open Go.RowKit Go.Shelf

section
variable {P : Program} {ops : Array Oper} {Q : Exit → Act → World → Prop} {md : Region.Mode} {S : World → Prop} {last : Nat}

def underB (md : Region.Mode) (ops : Array Oper) : Nat → Nat → Nat → Bool
  | 0, _, _ => false
  | f + 1, j, i => match ops[j]? with
    | none => false
    | some o => o.after.any fun e => Region.binds md e && (e.on == i || underB md ops f e.on i)
def ClosedL (md : Region.Mode) (ops : Array Oper) (listed : Array Bool) : Prop :=
  ∀ j o, ops[j]? = some o → listed.getD j false = true → ∀ e ∈ o.after, Region.binds md e = true → listed.getD e.on false = true
def closedB (md : Region.Mode) (ops : Array Oper) (listed : Array Bool) : Bool :=
  (List.range ops.size).all fun j => !listed.getD j false || match ops[j]? with
    | some o => o.after.all fun e => !Region.binds md e || listed.getD e.on false
    | none => true
theorem closedB_spec {listed : Array Bool} (h : closedB md ops listed = true) : ClosedL md ops listed := by
  intro j o ho hl e he hb
  have h1 := List.all_eq_true.1 h j (List.mem_range.2 (Array.getElem?_eq_some_iff.1 ho).1)
  rw [hl, ho] at h1
  simp only [Bool.not_true, Bool.false_or] at h1
  have h2 := Array.all_eq_true_iff_forall_mem.1 h1 e he
  rw [hb] at h2
  simpa using h2
theorem under_listed {listed : Array Bool} (hc : ClosedL md ops listed) : ∀ (f j i : Nat), underB md ops f j i = true →
    (∀ o, ops[j]? = some o → ∀ e ∈ o.after, Region.binds md e = true → listed.getD e.on false = true) → listed.getD i false = true
  | 0, _, _, h, _ => by cases h
  | f + 1, j, i, h, hl => by
    unfold underB at h
    cases ho : ops[j]? with
    | none => rw [ho] at h; cases h
    | some o =>
      rw [ho] at h
      obtain ⟨e, he, hb⟩ := Array.any_eq_true'.1 h
      rw [Bool.and_eq_true, Bool.or_eq_true] at hb
      have h2 := hl o ho e he hb.1
      rcases hb.2 with h1 | h1
      · rw [← (beq_iff_eq.1 h1)]; exact h2
      · exact under_listed hc f e.on i h1 (fun o' ho' e' he' hb' => hc _ o' ho' h2 e' he' hb')
theorem closed_set {listed : Array Bool} {j : Nat} (hc : ClosedL md ops listed) (hj : j ∈ Region.ready md ops listed) : ClosedL md ops (listed.setIfInBounds j true) := by
  intro k o ho hl e he hb
  by_cases hk : k = j
  · subst hk
    obtain ⟨_, o', ho', hall⟩ := mem_ready.1 hj
    rw [ho] at ho'; cases ho'
    exact getD_set_true (hall e he hb)
  · rw [getD_set_ne false (Ne.symm hk)] at hl
    exact getD_set_true (hc k o ho hl e he hb)

def wpAnyL (P : Program) (md : Region.Mode) (ops : Array Oper) (Q : Exit → Act → World → Prop) (S : World → Prop) (last : Nat) : Nat → Array Bool → Act → World → Prop
  | 0, listed, a, w => Region.ready md ops listed = [] ∧ Q .normal a w
  | fuel + 1, listed, a, w =>
    (Region.ready md ops listed = [] → Q .normal a w) ∧
    ∀ i ∈ Region.ready md ops listed, wpOp P ops Q i (fun a' w' => (i = last ∨ S w') ∧ wpAnyL P md ops Q S last fuel (listed.setIfInBounds i true) a' w') a w
theorem wpAny_of_l : ∀ (fuel : Nat) (listed : Array Bool) (a : Act) (w : World), wpAnyL P md ops Q S last fuel listed a w → wpAny P md ops Q fuel listed a w
  | 0, _, _, _, h => h
  | fuel + 1, _, _, _, h => ⟨h.1, fun i hi => wpOp_mono (fun a' w' h' => wpAny_of_l fuel _ a' w' h'.2) (h.2 i hi)⟩
theorem wpAnyL_first {i : Nat} {oi : Oper} {v : Value} (hi : ops[i]? = some oi) (hsel : ∀ (j : Nat) (o : Oper) cs b, ops[j]? = some o → o.op ≠ .select cs b)
    (hQ : ∀ c a w, Q (.panic c) (a.put oi.dst v) w → Q (.panic c) a w) (f : Nat) (hu : underB md ops f last i = true) :
    ∀ (fuel : Nat) (listed : Array Bool) (a : Act) (w : World), ClosedL md ops listed →
      (∀ j oj, ops[j]? = some oj → j ≠ i → listed.getD j true = false → (∀ e ∈ oj.after, Region.binds md e = true → e.on ≠ i) → oi.apart ops oj = true) →
      i ∈ Region.ready md ops listed → YieldsIf P ops S oi v a → S w →
      wpAnyL P md ops Q S last fuel (listed.setIfInBounds i true) (a.put oi.dst v) w → wpAnyL P md ops Q S last (fuel + 1) listed a w := by
  intro fuel
  induction fuel with
  | zero =>
    intro listed a w _ _ hr hy hS H
    refine ⟨fun h => (by rw [h] at hr; cases hr), fun j hj => ?_⟩
    by_cases hji : j = i
    · subst hji; exact hy.wpOp hi hS ⟨.inr hS, H⟩
    · have := ready_mono hj hji
      rw [H.1] at this
      cases this
  | succ fuel ih =>
    intro listed a w hc hfree hr hy hS H
    refine ⟨fun h => (by rw [h] at hr; cases hr), fun j hj => ?_⟩
    by_cases hji : j = i
    · subst hji; exact hy.wpOp hi hS ⟨.inr hS, H⟩
    · have h1 := H.2 j (ready_mono hj hji)
      obtain ⟨hjun, oj, hoj, hall⟩ := mem_ready.1 hj
      have hiun := (mem_ready.1 hr).1
      have noti : listed.getD i false = true → False := fun h1 => by
        rcases Nat.lt_or_ge i listed.size with h' | h'
        · simp [h'] at hiun h1; rw [hiun] at h1; cases h1
        · simp [Array.getElem?_eq_none h'] at h1
      have hnot : ∀ e ∈ oj.after, Region.binds md e = true → e.on ≠ i := fun e he hb heq => noti (heq ▸ hall e he hb)
      have hlast : j ≠ last := fun e => by
        subst e
        exact noti (under_listed hc _ _ _ hu (fun o ho e he hb => by rw [hoj] at ho; cases ho; exact hall e he hb))
      have h2 := wpOp_putIf hoj (hfree j oj hoj hji hjun hnot) (fun cs b => hsel i oi cs b hi) (fun cs b => hsel j oj cs b hoj) hQ hy h1
      have hfree' : ∀ k ok, ops[k]? = some ok → k ≠ i → (listed.setIfInBounds j true).getD k true = false →
          (∀ e ∈ ok.after, Region.binds md e = true → e.on ≠ i) → oi.apart ops ok = true := fun k ok hk hki hun hno => by
        refine hfree k ok hk hki ?_ hno
        by_cases hjk : j = k
        · subst hjk; exact hjun
        · rw [getD_set_ne true hjk] at hun; exact hun
      refine wpOp_mono (fun a' w' h3 => ⟨h3.2.1, ih (listed.setIfInBounds j true) a' w' (closed_set hc hj) hfree' (ready_mono hr (Ne.symm hji)) h3.1 (h3.2.1.resolve_left hlast) ?_⟩) h2
      rw [Array.setIfInBounds_comm _ _ hji]
      exact h3.2.2
theorem wpAnyL_done {listed : Array Bool} {a : Act} {w : World} (hr : Region.ready md ops listed = []) (h : Q .normal a w) :
    ∀ fuel, wpAnyL P md ops Q S last fuel listed a w
  | 0 => ⟨hr, h⟩
  | _ + 1 => ⟨fun _ => h, by rw [hr]; simp⟩
end

theorem wp_region_last {P : Program} {Q : Exit → Act → World → Prop} {S : World → Prop} {l : List Oper} {id : Nat} {a : Act} {w : World} (last : Nat) (hm : P.follows .mixedOrders = true) (hS : S w.drew)
    (h : S w.drew → wpAnyL P .any l.toArray Q S last l.toArray.size (Array.replicate l.toArray.size false) a w.drew) : (Code.region id l.toArray true).wp P Q a w :=
  wp_region_any hm (wpAny_of_l _ _ _ _ (h hS))
theorem last_yes {P : Program} {md : Region.Mode} {S : World → Prop} {Q : Exit → Act → World → Prop} {fuel last : Nat} {listed : Array Bool} {a : Act} {w : World} {v : Value} {oi : Oper} {l : List Oper} (i : Nat) (hi : nthOp l i = some oi)
    (hs : Region.noSelect l.toArray = true) (hf : Region.free md l.toArray listed i = true) (hr : (Region.ready md l.toArray listed).contains i = true) (hu : underB md l.toArray l.length last i = true) (hc : closedB md l.toArray listed = true)
    (hQ : ∀ c a w, Q (.panic c) (a.put oi.dst v) w → Q (.panic c) a w) (hw : Region.wanted oi (yielded l.toArray a.tmps) = true) (hS : S w) (hy : ∀ w, S w → (execOp a.eval oi).run P w = .ok (.value v) w)
    (h : wpAnyL P md l.toArray Q S last fuel (listed.setIfInBounds i true) (a.put oi.dst v) w) : wpAnyL P md l.toArray Q S last (fuel + 1) listed a w := by
  have hi' : l.toArray[i]? = some oi := by rw [nthOp_get]; exact hi
  exact wpAnyL_first hi' (Region.noSelect_spec hs) hQ _ hu fuel listed a w (closedB_spec hc) (Region.free_spec hi' hf) (by simpa using hr) (Or.inl ⟨hw, hy⟩) hS h
theorem last_end {P : Program} {md : Region.Mode} {S : World → Prop} {Q : Exit → Act → World → Prop} {fuel : Nat} {listed : Array Bool} {a : Act} {w : World} {oi : Oper} {l : List Oper} (i : Nat) (hi : nthOp l i = some oi)
    (hr : Region.ready md l.toArray listed = [i]) (hd : Region.ready md l.toArray (listed.setIfInBounds i true) = [])
    (h : ∀ K' : Act → World → Prop, Shut (∀ a w, Q .normal a w → K' a w) → if Region.wanted oi (yielded l.toArray a.tmps) = true then Oper.wp P oi a w K' Q else K' (a.put oi.dst undef) w) :
    wpAnyL P md l.toArray Q S i (fuel + 1) listed a w := by
  refine ⟨fun h0 => (by rw [hr] at h0; cases h0), ?_⟩
  rw [hr]
  intro j hj
  rw [List.mem_singleton] at hj
  subst hj
  exact wpOp_step (by rw [nthOp_get]; exact hi) (fun K' hK => h K' (fun a w hQ => hK a w ⟨.inl rfl, wpAnyL_done hd hQ _⟩))
theorem lyes {P : Program} {md : Region.Mode} {S : World → Prop} {Q : Exit → Act → World → Prop} {fuel last : Nat} {listed : Array Bool} {a a' : Act} {w : World} {v : Value} {oi : Oper} {l : List Oper} (i : Nat)
    (h : wpAnyL P md l.toArray Q S last fuel (listed.setIfInBounds i true) a' w) (hi : nthOp l i = some oi := by rfl) (hy : ∀ w, S w → (execOp a.eval oi).run P w = .ok (.value v) w := by (intro w hSw; (try dsimp only at hSw); go_simp; (try with_reducible rfl)))
    (ha : a.put oi.dst v = a' := by (simp only [Act.put, List.setIfInBounds_toArray, List.set]; exact rfl)) (hs : Region.noSelect l.toArray = true := by kernel_rfl) (hf : Region.free md l.toArray listed i = true := by kernel_rfl) (hr : (Region.ready md l.toArray listed).contains i = true := by kernel_rfl) (hu : underB md l.toArray l.length last i = true := by kernel_rfl) (hc : closedB md l.toArray listed = true := by kernel_rfl)
    (hQ : ∀ c a w, Q (.panic c) (a.put oi.dst v) w → Q (.panic c) a w := by exact fun _ _ _ h => h) (hw : Region.wanted oi (yielded l.toArray a.tmps) = true := by rfl) (hS : S w := by assumption) : wpAnyL P md l.toArray Q S last (fuel + 1) listed a w := by
  subst ha
  exact last_yes i hi hs hf hr hu hc hQ hw hS hy h
end Go.Proofs.YtomhekohcadijaaGreatDoor
namespace Go.Proofs.YtomhekohcadijaaGreatDoor
open Go.RowKit Go.Shelf

theorem step_rowE {P : Program} {w : World} {ops : Array Oper} {o : Oper} {a : Act} {K : Act → World → Prop} {Q : Exit → Act → World → Prop} {E : Prop} (hgd : o.guard = none) (s x : Operand) (t : TypeId)
    (ho : o.op = .call { callee := .builtin .append, args := #[s, x], argTypes := #[t, t] })
    (base : Nat) (e : TypeId) (i : TypeInfo) (z : Value) (size bytes : Nat) (ht : P.underlying t = some (.slice e)) (hi : P.info? e = some i) (hz : i.zero = some z)
    (hsize : i.size = size) (hby : i.bytes = bytes) (hb1000 : bytes ≤ 1000) (hzs : z.cells.size = size) (hsz : 0 < size)
    (v : Value) (n : Nat) (xs : List Value) (hs : a.eval s = v) (hown : w.ownsRow base e size v n xs)
    (va : Value) (m : Nat) (ys : List Value) (hx : a.eval x = va) (ha : SlA w size va m ys) (h1 : ∀ u ∈ ys, u.oneCell' = true)
    (hnm : n + m ≤ 100000000000) (hbase : base ≤ w.heap.size)
    (h : ∀ a' cap' w', w'.ownsRow base e size (.slice a' (n + m) cap') (n + m) (xs ++ ys) → w.grownBy w' v.ownBlock → (∀ k, k < w.heap.size → some k ≠ v.ownBlock → some k ≠ (Value.slice a' (n + m) cap').ownBlock) → K (a.put o.dst (.slice a' (n + m) cap')) w') :
    if Region.wanted o (yielded ops a.tmps) = true then Oper.wp P o a w K Q else E := by
  by_cases h0 : 0 < m
  · obtain ⟨b, off, c, rfl, hc, hm, hb, hcell⟩ := ha.pos h0
    have hl : ys.length = m * size := by
      rcases ha with ha | ⟨_, rfl, rfl⟩
      · exact ha.len
      · simp
    have hbb : (n + m) * bytes ≤ 140737488355328 := Nat.le_trans (Nat.mul_le_mul (Nat.le_refl _) hb1000) (by omega)
    refine step_append_lies w hgd s x t ho base e i z size bytes ht hi hz hsize hby hzs hsz v n xs hs hown ⟨b, off, none⟩ m c ys hx hl (fun j u hu => by rw [addr_add]; exact hcell j u hu) h1 h0 (by simp only [maxLen]; omega) hbb hbase _ rfl
      (fun g cap w' h1 h2 h3 _ => h _ cap w' h1 h2 (fun k hk hne he => ?_))
    injection he with he
    dsimp only at he
    subst he
    rcases h3 with h3 | h3
    · exact hne h3.symm
    · omega
  · obtain rfl : m = 0 := by omega
    have hy : ys = [] := by
      rcases ha with ha | ⟨_, _, rfl⟩
      · have := ha.len; exact List.eq_nil_of_length_eq_zero (by omega)
      · rfl
    subst hy
    obtain ⟨ax, cx, rfl⟩ := ha.form
    obtain ⟨ao, cap, rfl, hnc⟩ := own_form2 hown
    refine step_zero w hgd s x t ho e i ht hi ao n cap hnc hs ax cx hx ?_
    refine h ao cap w (by rw [List.append_nil]; exact hown) ⟨rfl, rfl, rfl, Nat.le_refl _, fun _ _ _ => rfl⟩ (fun k _ hne he => hne (by rw [he]; cases ao <;> rfl))
end Go.Proofs.YtomhekohcadijaaGreatDoor
namespace Go.Proofs.YtomhekohcadijaaGreatDoor
open Go.RowKit Go.Shelf

end Go.Proofs.YtomhekohcadijaaGreatDoor
