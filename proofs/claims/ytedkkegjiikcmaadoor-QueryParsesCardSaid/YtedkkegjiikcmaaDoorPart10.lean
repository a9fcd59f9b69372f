/- A region that draws its order and ends in a store into a cell that it loads: what is loaded is held up to the last operation, which waits for all others. crupperref04.Parse: the same as query.Parse, for every line (printed by gen_qrefparse.py). The statement QueryParses: the walk of the law. Roles and statements among a law's arguments: opened to data, and read again in a later world. -/
import Derived.Test.YtedkkegjiikcmaaDoorPart5
import Derived.Test.YtedkkegjiikcmaaDoorPart9
import Derived.Test.YtedkkegjiikcmaaDoorPart8
import Derived.Deep.CutBlock
import Derived.ProofKit
import Derived.OpenShut
import Derived.ChangeMaps5
import Derived.Deep.Strs
namespace Go.Proofs.YtedkkegjiikcmaaDoor
open Go.RowKit Go.Shelf

section
variable {P : Program} {ops : Array Oper} {Q : Exit → Act → World → Prop} {md : Region.Mode} {S : World → Prop} {last : Nat}

def underB (md : Region.Mode) (ops : Array Oper) : Nat → Nat → Nat → Bool
  | 0, _, _ => false
  | f + 1, j, i => match ops[j]? with
    | none => false
    | some o => o.after.any fun e => Region.binds md e && (e.on == i || underB md ops f e.on i)
def ClosedL (md : Region.Mode) (ops : Array Oper) (listed : Array Bool) : Prop :=
  ∀ j o, ops[j]? = some o → listed.getD j false = true → ∀ e ∈ o.after, Region.binds md e = true → listed.getD e.on false = true
def closedB (md : Region.Mode) (ops : Array Oper) (listed : Array Bool) : Bool :=
  (List.range ops.size).all fun j => !listed.getD j false || match ops[j]? with
    | some o => o.after.all fun e => !Region.binds md e || listed.getD e.on false
    | none => true
theorem closedB_spec {listed : Array Bool} (h : closedB md ops listed = true) : ClosedL md ops listed := by
  intro j o ho hl e he hb
  have h1 := List.all_eq_true.1 h j (List.mem_range.2 (Array.getElem?_eq_some_iff.1 ho).1)
  rw [hl, ho] at h1
  simp only [Bool.not_true, Bool.false_or] at h1
  have h2 := Array.all_eq_true_iff_forall_mem.1 h1 e he
  rw [hb] at h2
  simpa using h2
theorem under_listed {listed : Array Bool} (hc : ClosedL md ops listed) : ∀ (f j i : Nat), underB md ops f j i = true →
    (∀ o, ops[j]? = some o → ∀ e ∈ o.after, Region.binds md e = true → listed.getD e.on false = true) → listed.getD i false = true
  | 0, _, _, h, _ => by cases h
  | f + 1, j, i, h, hl => by
    unfold underB at h
    cases ho : ops[j]? with
    | none => rw [ho] at h; cases h
    | some o =>
      rw [ho] at h
      obtain ⟨e, he, hb⟩ := Array.any_eq_true'.1 h
      rw [Bool.and_eq_true, Bool.or_eq_true] at hb
      have h2 := hl o ho e he hb.1
      rcases hb.2 with h1 | h1
      · rw [← (beq_iff_eq.1 h1)]; exact h2
      · exact under_listed hc f e.on i h1 (fun o' ho' e' he' hb' => hc _ o' ho' h2 e' he' hb')
theorem closed_set {listed : Array Bool} {j : Nat} (hc : ClosedL md ops listed) (hj : j ∈ Region.ready md ops listed) : ClosedL md ops (listed.setIfInBounds j true) := by
  intro k o ho hl e he hb
  by_cases hk : k = j
  · subst hk
    obtain ⟨_, o', ho', hall⟩ := mem_ready.1 hj
    rw [ho] at ho'; cases ho'
    exact getD_set_true (hall e he hb)
  · rw [getD_set_ne false (Ne.symm hk)] at hl
    exact getD_set_true (hc k o ho hl e he hb)

def wpAnyL (P : Program) (md : Region.Mode) (ops : Array Oper) (Q : Exit → Act → World → Prop) (S : World → Prop) (last : Nat) : Nat → Array Bool → Act → World → Prop
  | 0, listed, a, w => Region.ready md ops listed = [] ∧ Q .normal a w
  | fuel + 1, listed, a, w =>
    (Region.ready md ops listed = [] → Q .normal a w) ∧
    ∀ i ∈ Region.ready md ops listed, wpOp P ops Q i (fun a' w' => (i = last ∨ S w') ∧ wpAnyL P md ops Q S last fuel (listed.setIfInBounds i true) a' w') a w
theorem wpAny_of_l : ∀ (fuel : Nat) (listed : Array Bool) (a : Act) (w : World), wpAnyL P md ops Q S last fuel listed a w → wpAny P md ops Q fuel listed a w
  | 0, _, _, _, h => h
  | fuel + 1, _, _, _, h => ⟨h.1, fun i hi => wpOp_mono (fun a' w' h' => wpAny_of_l fuel _ a' w' h'.2) (h.2 i hi)⟩
theorem wpAnyL_first {i : Nat} {oi : Oper} {v : Value} (hi : ops[i]? = some oi) (hsel : ∀ (j : Nat) (o : Oper) cs b, ops[j]? = some o → o.op ≠ .select cs b)
    (hQ : ∀ c a w, Q (.panic c) (a.put oi.dst v) w → Q (.panic c) a w) (f : Nat) (hu : underB md ops f last i = true) :
    ∀ (fuel : Nat) (listed : Array Bool) (a : Act) (w : World), ClosedL md ops listed →
      (∀ j oj, ops[j]? = some oj → j ≠ i → listed.getD j true = false → (∀ e ∈ oj.after, Region.binds md e = true → e.on ≠ i) → oi.apart ops oj = true) →
      i ∈ Region.ready md ops listed → YieldsIf P ops S oi v a → S w →
      wpAnyL P md ops Q S last fuel (listed.setIfInBounds i true) (a.put oi.dst v) w → wpAnyL P md ops Q S last (fuel + 1) listed a w := by
  intro fuel
  induction fuel with
  | zero =>
    intro listed a w _ _ hr hy hS H
    refine ⟨fun h => (by rw [h] at hr; cases hr), fun j hj => ?_⟩
    by_cases hji : j = i
    · subst hji; exact hy.wpOp hi hS ⟨.inr hS, H⟩
    · have := ready_mono hj hji
      rw [H.1] at this
      cases this
  | succ fuel ih =>
    intro listed a w hc hfree hr hy hS H
    refine ⟨fun h => (by rw [h] at hr; cases hr), fun j hj => ?_⟩
    by_cases hji : j = i
    · subst hji; exact hy.wpOp hi hS ⟨.inr hS, H⟩
    · have h1 := H.2 j (ready_mono hj hji)
      obtain ⟨hjun, oj, hoj, hall⟩ := mem_ready.1 hj
      have hiun := (mem_ready.1 hr).1
      have noti : listed.getD i false = true → False := fun h1 => by
        rcases Nat.lt_or_ge i listed.size with h' | h'
        · simp [h'] at hiun h1; rw [hiun] at h1; cases h1
        · simp [Array.getElem?_eq_none h'] at h1
      have hnot : ∀ e ∈ oj.after, Region.binds md e = true → e.on ≠ i := fun e he hb heq => noti (heq ▸ hall e he hb)
      have hlast : j ≠ last := fun e => by
        subst e
        exact noti (under_listed hc _ _ _ hu (fun o ho e he hb => by rw [hoj] at ho; cases ho; exact hall e he hb))
      have h2 := wpOp_putIf hoj (hfree j oj hoj hji hjun hnot) (fun cs b => hsel i oi cs b hi) (fun cs b => hsel j oj cs b hoj) hQ hy h1
      have hfree' : ∀ k ok, ops[k]? = some ok → k ≠ i → (listed.setIfInBounds j true).getD k true = false →
          (∀ e ∈ ok.after, Region.binds md e = true → e.on ≠ i) → oi.apart ops ok = true := fun k ok hk hki hun hno => by
        refine hfree k ok hk hki ?_ hno
        by_cases hjk : j = k
        · subst hjk; exact hjun
        · rw [getD_set_ne true hjk] at hun; exact hun
      refine wpOp_mono (fun a' w' h3 => ⟨h3.2.1, ih (listed.setIfInBounds j true) a' w' (closed_set hc hj) hfree' (ready_mono hr (Ne.symm hji)) h3.1 (h3.2.1.resolve_left hlast) ?_⟩) h2
      rw [Array.setIfInBounds_comm _ _ hji]
      exact h3.2.2
theorem wpAnyL_done {listed : Array Bool} {a : Act} {w : World} (hr : Region.ready md ops listed = []) (h : Q .normal a w) :
    ∀ fuel, wpAnyL P md ops Q S last fuel listed a w
  | 0 => ⟨hr, h⟩
  | _ + 1 => ⟨fun _ => h, by rw [hr]; simp⟩
end

theorem wp_region_last {P : Program} {Q : Exit → Act → World → Prop} {S : World → Prop} {l : List Oper} {id : Nat} {a : Act} {w : World} (last : Nat) (hm : P.follows .mixedOrders = true) (hS : S w.drew)
    (h : S w.drew → wpAnyL P .any l.toArray Q S last l.toArray.size (Array.replicate l.toArray.size false) a w.drew) : (Code.region id l.toArray true).wp P Q a w :=
  wp_region_any hm (wpAny_of_l _ _ _ _ (h hS))
theorem last_yes {P : Program} {md : Region.Mode} {S : World → Prop} {Q : Exit → Act → World → Prop} {fuel last : Nat} {listed : Array Bool} {a : Act} {w : World} {v : Value} {oi : Oper} {l : List Oper} (i : Nat) (hi : nthOp l i = some oi)
    (hs : Region.noSelect l.toArray = true) (hf : Region.free md l.toArray listed i = true) (hr : (Region.ready md l.toArray listed).contains i = true) (hu : underB md l.toArray l.length last i = true) (hc : closedB md l.toArray listed = true)
    (hQ : ∀ c a w, Q (.panic c) (a.put oi.dst v) w → Q (.panic c) a w) (hw : Region.wanted oi (yielded l.toArray a.tmps) = true) (hS : S w) (hy : ∀ w, S w → (execOp a.eval oi).run P w = .ok (.value v) w)
    (h : wpAnyL P md l.toArray Q S last fuel (listed.setIfInBounds i true) (a.put oi.dst v) w) : wpAnyL P md l.toArray Q S last (fuel + 1) listed a w := by
  have hi' : l.toArray[i]? = some oi := by rw [nthOp_get]; exact hi
  exact wpAnyL_first hi' (Region.noSelect_spec hs) hQ _ hu fuel listed a w (closedB_spec hc) (Region.free_spec hi' hf) (by simpa using hr) (Or.inl ⟨hw, hy⟩) hS h
theorem last_call {P : Program} {md : Region.Mode} {S : World → Prop} {Q : Exit → Act → World → Prop} {fuel last : Nat} {listed : Array Bool} {a : Act} {w : World} {oi : Oper} {l : List Oper} (i : Nat) (hi : nthOp l i = some oi)
    (hr : Region.ready md l.toArray listed = [i])
    (h : ∀ K' : Act → World → Prop, Shut (∀ a w, S w → (S w → wpAnyL P md l.toArray Q S last fuel (listed.setIfInBounds i true) a w) → K' a w) → if Region.wanted oi (yielded l.toArray a.tmps) = true then Oper.wp P oi a w K' Q else K' (a.put oi.dst undef) w) :
    wpAnyL P md l.toArray Q S last (fuel + 1) listed a w := by
  refine ⟨fun h0 => (by rw [hr] at h0; cases h0), ?_⟩
  rw [hr]
  intro j hj
  rw [List.mem_singleton] at hj
  subst hj
  exact wpOp_step (by rw [nthOp_get]; exact hi) (fun K' hK => h K' (fun a w hS hW => hK a w ⟨.inr hS, hW hS⟩))
theorem last_end {P : Program} {md : Region.Mode} {S : World → Prop} {Q : Exit → Act → World → Prop} {fuel : Nat} {listed : Array Bool} {a : Act} {w : World} {oi : Oper} {l : List Oper} (i : Nat) (hi : nthOp l i = some oi)
    (hr : Region.ready md l.toArray listed = [i]) (hd : Region.ready md l.toArray (listed.setIfInBounds i true) = [])
    (h : ∀ K' : Act → World → Prop, Shut (∀ a w, Q .normal a w → K' a w) → if Region.wanted oi (yielded l.toArray a.tmps) = true then Oper.wp P oi a w K' Q else K' (a.put oi.dst undef) w) :
    wpAnyL P md l.toArray Q S i (fuel + 1) listed a w := by
  refine ⟨fun h0 => (by rw [hr] at h0; cases h0), ?_⟩
  rw [hr]
  intro j hj
  rw [List.mem_singleton] at hj
  subst hj
  exact wpOp_step (by rw [nthOp_get]; exact hi) (fun K' hK => h K' (fun a w hQ => hK a w ⟨.inl rfl, wpAnyL_done hd hQ _⟩))
theorem lyes {P : Program} {md : Region.Mode} {S : World → Prop} {Q : Exit → Act → World → Prop} {fuel last : Nat} {listed : Array Bool} {a a' : Act} {w : World} {v : Value} {oi : Oper} {l : List Oper} (i : Nat)
    (h : wpAnyL P md l.toArray Q S last fuel (listed.setIfInBounds i true) a' w) (hi : nthOp l i = some oi := by rfl) (hy : ∀ w, S w → (execOp a.eval oi).run P w = .ok (.value v) w := by (intro w hSw; (try dsimp only at hSw); go_simp; (try with_reducible rfl)))
    (ha : a.put oi.dst v = a' := by (simp only [Act.put, List.setIfInBounds_toArray, List.set]; exact rfl)) (hs : Region.noSelect l.toArray = true := by kernel_rfl) (hf : Region.free md l.toArray listed i = true := by kernel_rfl) (hr : (Region.ready md l.toArray listed).contains i = true := by kernel_rfl) (hu : underB md l.toArray l.length last i = true := by kernel_rfl) (hc : closedB md l.toArray listed = true := by kernel_rfl)
    (hQ : ∀ c a w, Q (.panic c) (a.put oi.dst v) w → Q (.panic c) a w := by exact fun _ _ _ h => h) (hw : Region.wanted oi (yielded l.toArray a.tmps) = true := by rfl) (hS : S w := by assumption) : wpAnyL P md l.toArray Q S last (fuel + 1) listed a w := by
  subst ha
  exact last_yes i hi hs hf hr hu hc hQ hw hS hy h
end Go.Proofs.YtedkkegjiikcmaaDoor
namespace Go.Proofs.YtedkkegjiikcmaaDoor
open Go.RowKit Go.Shelf

def bestTo (l : List Tok) : Nat → Nat
  | 0 => 0
  | j + 1 => max (bestTo l j) (fitQ ((j : Int) + 1) 0 l)
theorem bestTo_six (l : List Tok) : bestTo l 6 = bestQ l := by
  simp [bestTo, bestQ]
theorem fit_le (k : Int) : ∀ (l : List Tok) (i : Nat), fitQ k i l ≤ l.length
  | [], i => by rw [fitQ_nil]; exact Nat.le_refl _
  | t :: l, i => by
    rw [fitQ_cons]
    have := fit_le k l (i + 1)
    split
    · rw [List.length_cons]; omega
    · exact Nat.zero_le _
theorem bestTo_le (l : List Tok) : ∀ j, bestTo l j ≤ l.length
  | 0 => Nat.zero_le _
  | j + 1 => by
    have h1 := bestTo_le l j
    have h2 := fit_le ((j : Int) + 1) l 0
    show max _ _ ≤ _
    omega
theorem refQ_at (l : List Tok) (e : Int) (j : Nat) (hj : j < 6) (hn : ∀ i : Nat, i < j → ¬ fitQ ((i : Int) + 1) 0 l = frontQ ((i : Int) + 1)) (hf : fitQ ((j : Int) + 1) 0 l = frontQ ((j : Int) + 1)) : refQ l e = kindQ ((j : Int) + 1) l e := by
  have n0 : 0 < j → ¬ fitQ 1 0 l = 5 := fun h => hn 0 h
  have n1 : 1 < j → ¬ fitQ 2 0 l = 5 := fun h => hn 1 h
  have n2 : 2 < j → ¬ fitQ 3 0 l = 5 := fun h => hn 2 h
  have n3 : 3 < j → ¬ fitQ 4 0 l = 6 := fun h => hn 3 h
  have n4 : 4 < j → ¬ fitQ 5 0 l = 8 := fun h => hn 4 h
  unfold refQ
  rcases (show j = 0 ∨ j = 1 ∨ j = 2 ∨ j = 3 ∨ j = 4 ∨ j = 5 by omega) with rfl | rfl | rfl | rfl | rfl | rfl
  · rw [if_pos (show fitQ 1 0 l = 5 from hf)]; rfl
  · rw [if_neg (n0 (by omega)), if_pos (show fitQ 2 0 l = 5 from hf)]; rfl
  · rw [if_neg (n0 (by omega)), if_neg (n1 (by omega)), if_pos (show fitQ 3 0 l = 5 from hf)]; rfl
  · rw [if_neg (n0 (by omega)), if_neg (n1 (by omega)), if_neg (n2 (by omega)), if_pos (show fitQ 4 0 l = 6 from hf)]; rfl
  · rw [if_neg (n0 (by omega)), if_neg (n1 (by omega)), if_neg (n2 (by omega)), if_neg (n3 (by omega)), if_pos (show fitQ 5 0 l = 8 from hf)]; rfl
  · rw [if_neg (n0 (by omega)), if_neg (n1 (by omega)), if_neg (n2 (by omega)), if_neg (n3 (by omega)), if_neg (n4 (by omega)), if_pos (show fitQ 6 0 l = 8 from hf)]; rfl
theorem refQ_none (l : List Tok) (e : Int) (hn : ∀ i : Nat, i < 6 → ¬ fitQ ((i : Int) + 1) 0 l = frontQ ((i : Int) + 1)) : refQ l e = endQ l e := by
  unfold refQ
  rw [if_neg (show ¬ fitQ 1 0 l = 5 from hn 0 (by omega)), if_neg (show ¬ fitQ 2 0 l = 5 from hn 1 (by omega)), if_neg (show ¬ fitQ 3 0 l = 5 from hn 2 (by omega)), if_neg (show ¬ fitQ 4 0 l = 6 from hn 3 (by omega)), if_neg (show ¬ fitQ 5 0 l = 8 from hn 4 (by omega)), if_neg (show ¬ fitQ 6 0 l = 8 from hn 5 (by omega))]
theorem fit_front (k : Int) : ∀ (l : List Tok) (i : Nat), i ≤ frontQ k → i + fitQ k i l ≤ frontQ k
  | [], i, h => by rw [fitQ_nil]; exact h
  | t :: l, i, h => by
    rw [fitQ_cons]
    by_cases hg : i < frontQ k ∧ goesQ k i t = true
    · rw [if_pos hg]
      have := fit_front k l (i + 1) hg.1
      omega
    · rw [if_neg hg]; exact h
theorem fit_step {k : Int} {l : List Tok} {m : Nat} (hm : m < l.length) (hf : m < frontQ k) (hg : goesQ k m l[m] = true) : fitQ k m (l.drop m) = fitQ k (m + 1) (l.drop (m + 1)) + 1 := by
  rw [List.drop_eq_getElem_cons hm, fitQ_cons, if_pos ⟨hf, hg⟩]
theorem fit_stop {k : Int} {l : List Tok} {m : Nat} (h : ∀ hm : m < l.length, ¬ (m < frontQ k ∧ goesQ k m l[m] = true)) : fitQ k m (l.drop m) = 0 := by
  by_cases hm : m < l.length
  · rw [List.drop_eq_getElem_cons hm, fitQ_cons, if_neg (h hm)]
  · rw [List.drop_eq_nil_of_le (by omega), fitQ_nil]
theorem tok_cells {w : World} {b off : Nat} {l : List Tok} (h : ∀ j u, (l.flatMap Tok.cells)[j]? = some u → w.cell? ⟨b, off + j, none⟩ = some u) (k : Nat) (hk : k < l.length) :
    w.cell? ⟨b, off + k * 3, none⟩ = some (.int .i64 l[k].kind) ∧ w.cell? ⟨b, off + k * 3 + 1, none⟩ = some (.string ⟨l[k].text.toArray⟩) ∧ w.cell? ⟨b, off + k * 3 + 2, none⟩ = some (.int .i64 l[k].col) := tok_kind h k hk
theorem txQ_at {l : List Tok} {i : Nat} (h : i < l.length) : txQ l i = ⟨l[i].text.toArray⟩ := by
  unfold txQ
  rw [List.getD_eq_getElem?_getD, List.getElem?_eq_getElem h]
  rfl
set_option maxRecDepth 100000 in
set_option maxHeartbeats 16000000 in
theorem ref4_Parse (s : ByteArray) (w : World) (hs : s.size < 4294967281) :
    Calls Tryd.prog 14 #[.string s] w fun e w' => ParseR (parseQ s) w e w' := by
  have E := Lib.hid (show parseQ s = parseQT (tokens (bl s)) (endOf s) from rfl)
  have EN := Lib.hid (fun W => ref3_End s W (by omega))
  rw [show endOf' s = endOf s from rfl] at EN
  have HTL := Lib.hid (tokens_len (bl s))
  generalize endOf s = en at E EN
  generalize parseQ s = res at E ⊢
  go_enter Tryd.func14, Tryd.ntmps14
  go_wp2_with fail
  refine (ref2_Tokens_any s _ (by omega)).mono ?_
  rintro e w1 ⟨va, rfl, hown1, hb1⟩
  obtain ⟨sa, sc, rfl⟩ := own_form hown1
  have hsl1 := Lib.hid (Sl.of_own hown1)
  have HOT := Lib.hid (fun (b off : Nat) (h : sa = some ⟨b, off, none⟩) => show ¬ b = w.heap.size by
    have := (hown1.lt b (by rw [h]; rfl)).1
    simp at this
    omega)
  have HD := Lib.hid (keep1 hb1)
  have HB := Lib.hid (((Below.refl _ _).alloc (Nat.le_refl _) _).trans (hb1.mono (by simp)) : Below w.heap.size w w1)
  clear hown1 hb1
  generalize tokens (bl s) = t at hsl1 E HTL ⊢
  obtain ⟨l, i, y⟩ := t
  dsimp only at hsl1 E HTL ⊢
  have hD1 := HD.out.2.2
  by_cases hy : y = 0
  rotate_left
  · have E := Lib.hid (E.out.trans (show parseQT (l, i, y) en = (noQd, i, y) from if_pos hy))
    have d : (y != 0) = true := by simp [hy]
    clear hy
    obtain ⟨ca, fa, za⟩ := HD.out
    go_wp2
    refine bodyPost_ret (v := .tuple #[qdv noQd (.slice none 0 0), .int .i64 i, .int .i64 y]) (by simp [results, Tryd.results14, go_sem, ca, noQd, noR]) rfl ⟨_, by rw [E.out], by rw [E.out]; exact (Sl.nil _ _).a, ?_⟩
    have hb4 := HB.out
    (repeat' (first | with_reducible exact Below.refl _ _ | with_reducible assumption | with_reducible (refine Below.setCell ?_ ?_ _) | with_reducible (refine Below.alloc ?_ ?_ _) | with_reducible (refine below_drew ?_) | with_reducible (refine below_drewN ?_ _) | with_reducible (refine Below.trans ?_ (Below.mono (by assumption) ?_)) | omega | (simp; done) | (simp; omega)))
  subst hy
  have E := Lib.hid (E.out.trans ((show parseQT (l, i, 0) en = readQ l en from if_neg (fun h => h rfl)).trans (law_query l en)))
  have hll := HTL.out
  go_wp2_with fail
  go_loopw [8, 9] (fun vb vk wr => ∃ j : Nat, j ≤ 6 ∧ vk = .int .i64 ((j : Int) + 1) ∧ vb = .int .i64 (bestTo l j : Nat) ∧ Hid (Below w1.heap.size w1 wr) ∧ Hid (∀ i : Nat, i < j → ¬ fitQ ((i : Int) + 1) 0 l = frontQ ((i : Int) + 1))) (fun _ vk _ => 8 - (intOf vk).toNat)
  case atStart => exact ⟨0, by omega, rfl, rfl, Lib.hid (Below.refl _ _), Lib.hid (fun i h => by omega)⟩
  case round =>
    obtain ⟨j, hj, rfl, rfl, HW, HN⟩ := hrel
    have hbt := bestTo_le l j
    by_cases hj6 : j < 6
    · obtain ⟨k, hk⟩ : ∃ k : Int, k = (j : Int) + 1 := ⟨_, rfl⟩
      have hk1 : 1 ≤ k := by omega
      have hk6 : k ≤ 6 := by omega
      rw [← hk]
      have HK := Lib.hid hk
      clear hk
      have dk : decide (k ≤ 6) = true := decide_eq_true hk6
      have HF := Lib.hid (fun W => ref4_front k W)
      have hfr : frontQ k ≤ 8 := by unfold frontQ; split; decide; split <;> decide
      have hfr5 : 5 ≤ frontQ k := by unfold frontQ; split; decide; split <;> decide
      go_upto_block 2 with fail
      go_cut [10] from 27 to 47 (fun s10 wx => ∃ V : World, V = wx ∧ s10 = .int .i64 (fitQ k 0 l : Nat) ∧ Hid (Below w1.heap.size w1 V))
      case first =>
        go_wp2_with fail
        go_loopw [10] (fun vn wr2 => ∃ m : Nat, m ≤ l.length ∧ m ≤ frontQ k ∧ vn = .int .i64 m ∧ Hid (Below w1.heap.size w1 wr2) ∧ Hid (fitQ k 0 l = m + fitQ k m (l.drop m))) (fun vn _ => 300 - (intOf vn).toNat)
        case atStart => exact ⟨0, Nat.zero_le _, Nat.zero_le _, rfl, HW, Lib.hid (by simp)⟩
        case round =>
          clear HW
          obtain ⟨m, hm, hmf, rfl, HW, HM⟩ := hrel
          by_cases hml : m < l.length
          · have dl : decide ((m : Int) < (l.length : Int)) = true := by (rw [decide_eq_true_iff]; omega)
            by_cases hmk : m < frontQ k
            · have df : decide ((m : Int) < (frontQ k : Int)) = true := by (rw [decide_eq_true_iff]; omega)
              obtain ⟨b, off, cap, he, hc, hmx, hlt, hx⟩ := hsl1.out.pos (by omega)
              simp only [Value.slice.injEq, true_and] at he
              obtain ⟨rfl, rfl⟩ := he
              obtain ⟨q0, q1, q2⟩ := tok_cells hx m hml
              have q0 := (HW.out.cell (p := ⟨b, off + m * 3, none⟩) hlt).trans q0
              have q1 := (HW.out.cell (p := ⟨b, off + m * 3 + 1, none⟩) hlt).trans q1
              have q2 := (HW.out.cell (p := ⟨b, off + m * 3 + 2, none⟩) hlt).trans q2
              have hbw : b < wr.heap.size := Nat.lt_of_lt_of_le hlt HW.out.size
              have GO := Lib.hid (fun W => ref4_goes k hk1 hk6 m l[m] W (by omega))
              have FS := Lib.hid (fun (h : goesQ k m l[m] = true) => fit_step (k := k) hml hmk h)
              have FT := Lib.hid (fun (h : goesQ k m l[m] = false) => fit_stop (k := k) (l := l) (m := m) (fun _ h2 => by rw [h] at h2; exact absurd h2.2 (by decide)))
              clear hx
              generalize l[m] = t at *
              cases hg : goesQ k m t with
              | true =>
                have HM2 := Lib.hid (show fitQ k 0 l = (m + 1 : Nat) + fitQ k (m + 1) (l.drop (m + 1)) by rw [HM.out, FS.out hg]; omega)
                rw [hg] at GO
                clear hg FS FT
                generalize frontQ k = fr at *
                go_wp2_with fail
                refine (HF.out _).mono ?_
                rintro e2 w2 ⟨rfl, hw2⟩
                subst hw2
                go_wp2_with fail
                refine (GO.out _).mono ?_
                rintro e3 w3 ⟨rfl, hb3⟩
                have HW3 := Lib.hid (HW.out.trans (hb3.mono HW.out.size))
                clear hb3
                go_wp2
                exact ⟨⟨m + 1, by omega, by omega, by go_num, HW3, HM2⟩, by simp [intOf]; omega⟩
              | false =>
                have HM2 := Lib.hid (show fitQ k 0 l = m by rw [HM.out, FT.out hg]; omega)
                rw [hg] at GO
                clear hg FS FT
                generalize frontQ k = fr at *
                go_wp2_with fail
                refine (HF.out _).mono ?_
                rintro e2 w2 ⟨rfl, hw2⟩
                subst hw2
                go_wp2_with fail
                refine (GO.out _).mono ?_
                rintro e3 w3 ⟨rfl, hb3⟩
                have HW3 := Lib.hid (HW.out.trans (hb3.mono HW.out.size))
                clear hb3
                go_wp2
                go_meet
                exact ⟨_, rfl, by rw [HM2.out], HW3⟩
            · have df : decide ((m : Int) < (frontQ k : Int)) = false := by (rw [decide_eq_false_iff_not]; omega)
              have HM2 := Lib.hid (show fitQ k 0 l = m by rw [HM.out, fit_stop (fun _ h => hmk h.1)]; omega)
              generalize frontQ k = fr at *
              go_wp2_with fail
              refine (HF.out _).mono ?_
              rintro e2 w2 ⟨rfl, hw2⟩
              subst hw2
              go_wp2
              go_meet
              exact ⟨_, rfl, by rw [HM2.out], HW⟩
          · have dl : decide ((m : Int) < (l.length : Int)) = false := by (rw [decide_eq_false_iff_not]; omega)
            have HM2 := Lib.hid (show fitQ k 0 l = m by rw [HM.out, fit_stop (fun h => absurd h hml)]; omega)
            go_wp2
            go_meet
            exact ⟨_, rfl, by rw [HM2.out], HW⟩
      case rest =>
      clear HW
      obtain ⟨V, rfl, rfl, HW⟩ := hcut
      obtain ⟨F, hF⟩ : ∃ F, F = fitQ k 0 l := ⟨_, rfl⟩
      have hF1 := fit_le k l 0
      have hF2 := fit_front k l 0 (Nat.zero_le _)
      rw [← hF] at hF1 hF2 ⊢
      rw [Nat.zero_add] at hF2
      have HFE := Lib.hid hF
      have BJ := Lib.hid (show (max (bestTo l j : Int) (F : Int)) = (bestTo l (j + 1) : Nat) by
        rw [show bestTo l (j + 1) = max (bestTo l j) (fitQ ((j : Int) + 1) 0 l) from rfl, ← HK.out, ← hF]; omega)
      clear hF
      by_cases hlt : F < frontQ k
      · have df : decide ((F : Int) < (frontQ k : Int)) = true := by (rw [decide_eq_true_iff]; omega)
        have HN2 := Lib.hid (fun (i : Nat) (hi : i < j + 1) => show ¬ fitQ ((i : Int) + 1) 0 l = frontQ ((i : Int) + 1) by
          by_cases h : i < j
          · exact HN.out i h
          · obtain rfl : i = j := by omega
            rw [← HK.out, ← HFE.out]
            omega)
        generalize frontQ k = fr at *
        go_wp2_with fail
        refine (HF.out _).mono ?_
        rintro e2 w2 ⟨rfl, hw2⟩
        subst hw2
        go_wp2
        exact ⟨⟨j + 1, by omega, by rw [HK.out]; go_num, congrArg (Value.int .i64) BJ.out, HW, HN2⟩, by simp [intOf]; omega⟩
      · have df : decide ((F : Int) < (frontQ k : Int)) = false := by (rw [decide_eq_false_iff_not]; omega)
        have hFe : F = frontQ k := by omega
        have E := Lib.hid (E.out.trans (refQ_at l en j hj6 HN.out (by rw [← HK.out, ← HFE.out, hFe])))
        rw [← HK.out] at E
        have hl5 : 5 ≤ l.length := by omega
        have HFE2 := Lib.hid hFe
        obtain ⟨rb, hrb⟩ : ∃ rb : Rl, rb = if 5 ≤ k then ⟨txQ l 5, txQ l 7⟩ else noR := ⟨_, rfl⟩
        have E := Lib.hid (show res = restQ k ⟨k, ⟨txQ l 1, txQ l 3⟩, rb, []⟩ en (l.drop F) by rw [E.out, hrb, hFe]; rfl)
        have HRB := Lib.hid hrb
        clear hrb
        obtain ⟨b, off, cap, he, hc, hmx, hlt2, hx⟩ := hsl1.out.pos (by omega)
        simp only [Value.slice.injEq, true_and] at he
        obtain ⟨rfl, rfl⟩ := he
        have p1 : V.cell? ⟨b, off + 4, none⟩ = some (.string (txQ l 1)) := (HW.out.cell (p := ⟨b, off + 4, none⟩) hlt2).trans (by have := (tok_cells hx 1 (by omega)).2.1; rw [txQ_at (by omega)]; simpa using this)
        have p3 : V.cell? ⟨b, off + 10, none⟩ = some (.string (txQ l 3)) := (HW.out.cell (p := ⟨b, off + 10, none⟩) hlt2).trans (by have := (tok_cells hx 3 (by omega)).2.1; rw [txQ_at (by omega)]; simpa using this)
        have HX := Lib.hid hx
        have hbV : b < V.heap.size := Nat.lt_of_lt_of_le hlt2 HW.out.size
        have hbD := HOT.out b off rfl
        have dl1 : decide ((1 : Int) < (l.length : Int)) = true := by (rw [decide_eq_true_iff]; omega)
        have dl3 : decide ((3 : Int) < (l.length : Int)) = true := by (rw [decide_eq_true_iff]; omega)
        have hf8 : 5 ≤ k → frontQ k = 8 := fun h => by
          unfold frontQ
          rw [if_neg (by omega), if_pos h]
        have H8 := Lib.hid (fun (h : 5 ≤ k) => show 8 ≤ l.length by
          have := hf8 h
          omega)
        clear hf8
        clear hx hFe
        generalize frontQ k = fr at *
        generalize txQ l 1 = x1 at *
        generalize txQ l 3 = x3 at *
        go_wp2_with fail
        refine (HF.out _).mono ?_
        rintro e2 w2 ⟨rfl, hw2⟩
        subst hw2
        go_wp2_with fail
        go_region
        obtain ⟨gq, hgq⟩ : ∃ g, g = w2.heap.size := ⟨_, rfl⟩
        obtain ⟨V1, hV1⟩ : ∃ W, W = (w2.alloc (.cells #[.int .i64 k, .string x1, .string x3, .string emp, .string emp, .slice none 0 0] 31)).drew := ⟨_, rfl⟩
        have HQ := Lib.hid (show Blk V1 gq #[.int .i64 k, .string x1, .string x3, .string emp, .string emp, .slice none 0 0] by rw [hV1, hgq]; exact Blk.new w2 _ _)
        have HW1 := Lib.hid (show Below w1.heap.size w1 V1 by rw [hV1]; exact below_drew (HW.out.alloc HW.out.size _))
        have hgq1 : w1.heap.size ≤ gq := by rw [hgq]; exact HW.out.size
        rw [← hV1, ← hgq]
        clear hV1 hgq p1 p3 hbV HW
        go_upto_if 67 with fail
        go_cut [] from 66 to 77 (fun wx => ∃ V' : World, V' = wx ∧ Hid (Below w1.heap.size w1 V') ∧ Hid (Blk V' gq #[.int .i64 k, .string x1, .string x3, .string rb.o, .string rb.n, .slice none 0 0]))
        case first =>
          obtain ⟨cb, fb, zb⟩ := HQ.out
          by_cases h5 : 5 ≤ k
          · have d5 : decide (5 ≤ k) = true := decide_eq_true h5
            have h8 := H8.out h5
            have HRB := Lib.hid (show rb = ⟨txQ l 5, txQ l 7⟩ by rw [HRB.out, if_pos h5])
            have p5 : V1.cell? ⟨b, off + 16, none⟩ = some (.string (txQ l 5)) := (HW1.out.cell (p := ⟨b, off + 16, none⟩) hlt2).trans (by have := (tok_cells HX.out 5 (by omega)).2.1; rw [txQ_at (by omega)]; simpa using this)
            have p7 : V1.cell? ⟨b, off + 22, none⟩ = some (.string (txQ l 7)) := (HW1.out.cell (p := ⟨b, off + 22, none⟩) hlt2).trans (by have := (tok_cells HX.out 7 (by omega)).2.1; rw [txQ_at (by omega)]; simpa using this)
            have hbV : b < V1.heap.size := Nat.lt_of_lt_of_le hlt2 HW1.out.size
            have dl5 : decide ((5 : Int) < (l.length : Int)) = true := by (rw [decide_eq_true_iff]; omega)
            have dl7 : decide ((7 : Int) < (l.length : Int)) = true := by (rw [decide_eq_true_iff]; omega)
            generalize txQ l 5 = x5 at *
            generalize txQ l 7 = x7 at *
            go_wp2_with fail
            go_region
            try go_wp2
            go_meet
            refine ⟨_, rfl, Lib.hid ?_, Lib.hid ?_⟩
            · have hb4 := HW1.out
              (repeat' (first | with_reducible exact Below.refl _ _ | with_reducible assumption | with_reducible (refine Below.setCell ?_ ?_ _) | with_reducible (refine Below.alloc ?_ ?_ _) | with_reducible (refine below_drew ?_) | with_reducible (refine below_drewN ?_ _) | with_reducible (refine Below.trans ?_ (Below.mono (by assumption) ?_)) | omega | (simp; done) | (simp; omega)))
            · rw [HRB.out]
              exact (HQ.out.set 3 (.string x5) (by simp)).set 4 (.string x7) (by simp)
          · have d5 : decide (5 ≤ k) = false := decide_eq_false h5
            have HRB := Lib.hid (show rb = noR by rw [HRB.out, if_neg h5])
            go_wp2
            go_meet
            exact ⟨_, rfl, HW1, by rw [HRB.out]; exact HQ⟩
        case rest =>
        clear HQ HW1
        obtain ⟨V2, rfl, HW, HQ⟩ := hcut
        go_upto_block 4 with fail
        go_cut [10] from 78 to 114 (fun s10 wx => ∃ (V' : World) (n : Nat) (acc : List ByteArray) (v : Value), V' = wx ∧ s10 = .int .i64 n ∧ n ≤ l.length ∧ acc.length ≤ 12 ∧ Hid (Below w1.heap.size w1 V') ∧ Hid (V'.ownsRow (gq + 1) 9 1 v acc.length (strs acc)) ∧ Hid (Blk V' gq #[.int .i64 k, .string x1, .string x3, .string rb.o, .string rb.n, v]) ∧ Hid (res = (if n < l.length then (noQd, (l.getD n ⟨0, [], 0⟩).col, 2) else if k ≤ 2 ∧ acc.length = 0 then (noQd, en, 3) else (⟨k, ⟨x1, x3⟩, rb, acc⟩, 0, 0))))
        case first =>
          go_wp2_with fail
          go_loopw [10] (fun vn wr => ∃ (n : Nat) (acc : List ByteArray) (v : Value), vn = .int .i64 n ∧ n ≤ l.length ∧ acc.length ≤ 12 ∧ Hid (Below w1.heap.size w1 wr) ∧ Hid (wr.ownsRow (gq + 1) 9 1 v acc.length (strs acc)) ∧ Hid (Blk wr gq #[.int .i64 k, .string x1, .string x3, .string rb.o, .string rb.n, v]) ∧ Hid (res = restQ k ⟨k, ⟨x1, x3⟩, rb, acc⟩ en (l.drop n))) (fun vn _ => 300 - (intOf vn).toNat)
          case atStart => exact ⟨F, [], .slice none 0 0, rfl, hF1, by simp, HW, Lib.hid (World.ownsRow_nil _ _ _ _), HQ, E⟩
          case round =>
            clear HW HQ
            obtain ⟨n, acc, v, rfl, hnl, h12, HW, HO, HQ, HR⟩ := hrel
            obtain ⟨ao, ac, rfl⟩ := own_form HO.out
            obtain ⟨cb, fb, zb⟩ := HQ.out
            by_cases hn : n < l.length
            · have hd : l.drop n = l[n] :: l.drop (n + 1) := List.drop_eq_getElem_cons hn
              obtain ⟨q0, q1, q2⟩ := tok_cells HX.out n hn
              have q0 := (HW.out.cell (p := ⟨b, off + n * 3, none⟩) hlt2).trans q0
              have q1 := (HW.out.cell (p := ⟨b, off + n * 3 + 1, none⟩) hlt2).trans q1
              have q2 := (HW.out.cell (p := ⟨b, off + n * 3 + 2, none⟩) hlt2).trans q2
              have hbV : b < wr.heap.size := Nat.lt_of_lt_of_le hlt2 HW.out.size
              have dn : decide ((n : Int) < (l.length : Int)) = true := by (rw [decide_eq_true_iff]; omega)
              have HG := Lib.hid (show l.getD n ⟨0, [], 0⟩ = l[n] by rw [List.getD_eq_getElem?_getD, List.getElem?_eq_getElem hn]; rfl)
              rw [hd] at HR
              clear hd
              generalize l[n] = t at *
              by_cases h31 : k ≤ 3 ∧ t.kind = 1
              · obtain ⟨h3, h1⟩ := h31
                have d3 : decide (k ≤ 3) = true := decide_eq_true h3
                have HR := Lib.hid (show res = if 12 < (insSB acc t.tx).length then (noQd, t.col, 5) else restQ k ⟨k, ⟨x1, x3⟩, rb, insSB acc t.tx⟩ en (l.drop (n + 1)) by rw [HR.out, restQ, if_pos ⟨h3, h1⟩])
                rw [h1] at q0
                have PUT := Lib.hid (fun W (hb : Below wr.heap.size wr W) => ref1_PutO (.slice ao acc.length ac) acc t.tx W (Sl.of_own (own_below HO.out hb)).a (by omega))
                have hgs : gq + 1 ≤ wr.heap.size := HQ.out.2.2
                go_upto_region 17 with fail
                refine wp_region_last (S := (fun W => (∀ o, W.cell? ⟨gq, o, none⟩ = (#[.int .i64 k, .string x1, .string x3, .string rb.o, .string rb.n, .slice ao acc.length ac] : Array Value)[o]?) ∧ W.cell? ⟨b, off + n * 3 + 1, none⟩ = some (.string ⟨t.text.toArray⟩))) 9 (by kernel_rfl) ⟨HQ.out.1, q1⟩ (fun hHeld => ?_)
                (refine lyes 0 ?_); (refine lyes 1 ?_); (refine lyes 2 ?_); (refine lyes 3 ?_); (refine lyes 4 ?_); (refine lyes 5 ?_); (refine lyes 6 ?_); (try simp only [Act.put, List.setIfInBounds_toArray, List.set])
                (refine last_call 7 rfl (by kernel_rfl) (fun K hK => ?_); go_simp)
                go_at_call 50; refine (PUT.out _ (below_drew (Below.refl _ _))).mono ?_; rintro e9 wz ⟨v2, rfl, hor, hbq0⟩
                have hbq : Below wr.heap.size wr wz := (below_drew (Below.refl _ _)).trans hbq0
                have HQz := Lib.hid (HQ.out.below hbq)
                have q1z := (hbq.cell (p := ⟨b, off + n * 3 + 1, none⟩) hbV).trans q1
                have q2z := (hbq.cell (p := ⟨b, off + n * 3 + 2, none⟩) hbV).trans q2
                have hbz : b < wz.heap.size := Nat.lt_of_lt_of_le hbV hbq.size
                have HWz := Lib.hid (HW.out.trans (hbq.mono HW.out.size))
                have HOz := Lib.hid (show wz.ownsRow (gq + 1) 9 1 v2 (insSB acc t.tx).length (strs (insSB acc t.tx)) by
                  rcases hor with ⟨rfl, e1⟩ | hr
                  · rw [e1]; exact own_below HO.out hbq
                  · exact own_mono hr hgs)
                (refine hK.out _ _ (⟨HQz.out.1, q1z⟩) (fun hHeld => ?_); clear hK K; (try simp only [Act.put, List.setIfInBounds_toArray, List.set]))
                (refine lyes 8 ?_); (try simp only [Act.put, List.setIfInBounds_toArray, List.set])
                obtain ⟨v2a, v2c, rfl⟩ := own_form HOz.out
                clear cb fb zb q0 q1 q2 PUT hor hbq hbq0 hHeld hbV
                obtain ⟨cb, fb, zb⟩ := HQz.out
                (refine last_end 9 rfl (by kernel_rfl) (by kernel_rfl) (fun K hK => ?_); go_simp)
                refine hK.out _ _ ?_
                clear hK K
                have HQy := Lib.hid (HQz.out.set 5 (.slice v2a (insSB acc t.tx).length v2c) (by simp))
                have HOy := Lib.hid (HOz.out.kept (gb_setCell (g := gq) (o := 5) (World.grownBy.refl _ _) (.slice v2a (insSB acc t.tx).length v2c)) (.inr (fun e => by have := (HOz.out.lt gq e).1; omega)))
                have HWy := Lib.hid (HWz.out.setCell (p := ⟨gq, 5, none⟩) hgq1 (.slice v2a (insSB acc t.tx).length v2c))
                clear cb fb zb HQz HOz HWz
                have hneb : ¬ b = gq := by omega
                have q2y := (setCell_other (w := wz) (o := off + n * 3 + 2) (o' := 5) (.slice v2a (insSB acc t.tx).length v2c) hneb).trans q2z
                obtain ⟨WY, hWY⟩ : ∃ W, W = wz.setCell ⟨gq, 5, none⟩ (.slice v2a (insSB acc t.tx).length v2c) := ⟨_, rfl⟩
                have hby : b < WY.heap.size := by rw [hWY]; simpa [World.setCell] using hbz
                rw [← hWY] at HQy HOy HWy q2y ⊢
                clear hWY q1z q2z hbz hneb
                obtain ⟨cb, fb, zb⟩ := HQy.out
                by_cases h13 : 12 < (insSB acc t.tx).length
                · have d13 : decide ((12 : Int) < ((insSB acc t.tx).length : Int)) = true := by (rw [decide_eq_true_iff]; omega)
                  have E := Lib.hid (HR.out.trans (if_pos h13))
                  have HB := Lib.hid (HB.out.trans (HWy.out.mono (Nat.le_of_lt hD1)))
                  obtain ⟨ca, fa, za⟩ := HD.out.below HWy.out
                  generalize (insSB acc t.tx).length = L at *
                  go_wp2_with fail
                  go_region
                  try go_wp2
                  refine bodyPost_ret (v := .tuple #[qdv noQd (.slice none 0 0), .int .i64 t.col, .int .i64 5]) (by simp [results, Tryd.results14, go_sem, ca, noQd, noR]) rfl ⟨_, by rw [E.out], by rw [E.out]; exact (Sl.nil _ _).a, ?_⟩
                  have hb4 := HB.out
                  (repeat' (first | with_reducible exact Below.refl _ _ | with_reducible assumption | with_reducible (refine Below.setCell ?_ ?_ _) | with_reducible (refine Below.alloc ?_ ?_ _) | with_reducible (refine below_drew ?_) | with_reducible (refine below_drewN ?_ _) | with_reducible (refine Below.trans ?_ (Below.mono (by assumption) ?_)) | omega | (simp; done) | (simp; omega)))
                · have d13 : decide ((12 : Int) < ((insSB acc t.tx).length : Int)) = false := by (rw [decide_eq_false_iff_not]; omega)
                  have E := Lib.hid (HR.out.trans (if_neg h13))
                  go_wp2
                  exact ⟨⟨n + 1, insSB acc t.tx, _, by go_num, by omega, by omega, HWy, HOy, HQy, E⟩, by simp [intOf]; omega⟩
              · have HR := Lib.hid (show res = (noQd, t.col, 2) by rw [HR.out, restQ, if_neg h31])
                have HR := Lib.hid (show res = (if n < l.length then (noQd, (l.getD n ⟨0, [], 0⟩).col, 2) else if k ≤ 2 ∧ acc.length = 0 then (noQd, en, 3) else (⟨k, ⟨x1, x3⟩, rb, acc⟩, 0, 0)) by rw [HR.out, if_pos hn, HG.out])
                by_cases h3 : k ≤ 3
                · have d3 : decide (k ≤ 3) = true := decide_eq_true h3
                  have h1 : ¬ t.kind = 1 := fun h => h31 ⟨h3, h⟩
                  have d1 : (t.kind == 1) = false := by simp [h1]
                  clear h1 h31
                  go_wp2
                  go_meet
                  exact ⟨_, n, acc, _, rfl, rfl, hnl, h12, HW, HO, HQ, HR⟩
                · have d3 : decide (k ≤ 3) = false := decide_eq_false h3
                  clear h31
                  go_wp2
                  go_meet
                  exact ⟨_, n, acc, _, rfl, rfl, hnl, h12, HW, HO, HQ, HR⟩
            · have HR := Lib.hid (show res = (if n < l.length then (noQd, (l.getD n ⟨0, [], 0⟩).col, 2) else if k ≤ 2 ∧ acc.length = 0 then (noQd, en, 3) else (⟨k, ⟨x1, x3⟩, rb, acc⟩, 0, 0)) by rw [HR.out, if_neg hn, List.drop_eq_nil_of_le (by omega), restQ])
              have dn : decide ((n : Int) < (l.length : Int)) = false := by (rw [decide_eq_false_iff_not]; omega)
              by_cases h3 : k ≤ 3
              · have d3 : decide (k ≤ 3) = true := decide_eq_true h3
                go_wp2
                go_meet
                exact ⟨_, n, acc, _, rfl, rfl, hnl, h12, HW, HO, HQ, HR⟩
              · have d3 : decide (k ≤ 3) = false := decide_eq_false h3
                go_wp2
                go_meet
                exact ⟨_, n, acc, _, rfl, rfl, hnl, h12, HW, HO, HQ, HR⟩
        case rest =>
        clear HW HQ E hlt2
        obtain ⟨V3, n, acc, v, rfl, rfl, hnl, h12, HW, HO, HQ, HR⟩ := hcut
        obtain ⟨ao, ac, rfl⟩ := own_form HO.out
        have HB := Lib.hid (HB.out.trans (HW.out.mono (Nat.le_of_lt hD1)))
        obtain ⟨ca, fa, za⟩ := HD.out.below HW.out
        obtain ⟨cb, fb, zb⟩ := HQ.out
        by_cases hn : n < l.length
        · obtain ⟨_, _, _, he3, _, _, hlt3, _⟩ := hsl1.out.pos (by omega)
          simp only [Value.slice.injEq, Option.some.injEq, Addr.mk.injEq, true_and, and_true] at he3
          obtain ⟨⟨rfl, rfl⟩, rfl⟩ := he3
          have q2 := (HW.out.cell (p := ⟨b, off + n * 3 + 2, none⟩) hlt3).trans (tok_cells HX.out n hn).2.2
          have hbV : b < V3.heap.size := Nat.lt_of_lt_of_le hlt3 HW.out.size
          have dn : decide ((n : Int) < (l.length : Int)) = true := by (rw [decide_eq_true_iff]; omega)
          have E := Lib.hid (show res = (noQd, l[n].col, 2) by rw [HR.out, if_pos hn, List.getD_eq_getElem?_getD, List.getElem?_eq_getElem hn]; rfl)
          generalize l[n] = t at *
          go_wp2_with fail
          go_region
          try go_wp2
          refine bodyPost_ret (v := .tuple #[qdv noQd (.slice none 0 0), .int .i64 t.col, .int .i64 2]) (by simp [results, Tryd.results14, go_sem, ca, noQd, noR]) rfl ⟨_, by rw [E.out], by rw [E.out]; exact (Sl.nil _ _).a, ?_⟩
          have hb4 := HB.out
          (repeat' (first | with_reducible exact Below.refl _ _ | with_reducible assumption | with_reducible (refine Below.setCell ?_ ?_ _) | with_reducible (refine Below.alloc ?_ ?_ _) | with_reducible (refine below_drew ?_) | with_reducible (refine below_drewN ?_ _) | with_reducible (refine Below.trans ?_ (Below.mono (by assumption) ?_)) | omega | (simp; done) | (simp; omega)))
        · have dn : decide ((n : Int) < (l.length : Int)) = false := by (rw [decide_eq_false_iff_not]; omega)
          have HR := Lib.hid (HR.out.trans (if_neg hn))
          by_cases h2 : k ≤ 2 ∧ acc.length = 0
          · have d2 : decide (k ≤ 2) = true := decide_eq_true h2.1
            have d0 : ((acc.length : Int) == 0) = true := by rw [beq_iff_eq]; omega
            have E := Lib.hid (HR.out.trans (if_pos h2))
            clear h2
            go_wp2_with fail
            refine (EN.out _).mono ?_
            rintro e9 w9 ⟨rfl, rfl⟩
            go_wp2
            refine bodyPost_ret (v := .tuple #[qdv noQd (.slice none 0 0), .int .i64 en, .int .i64 3]) (by simp [results, Tryd.results14, go_sem, ca, noQd, noR]) rfl ⟨_, by rw [E.out], by rw [E.out]; exact (Sl.nil _ _).a, ?_⟩
            have hb4 := HB.out
            (repeat' (first | with_reducible exact Below.refl _ _ | with_reducible assumption | with_reducible (refine Below.setCell ?_ ?_ _) | with_reducible (refine Below.alloc ?_ ?_ _) | with_reducible (refine below_drew ?_) | with_reducible (refine below_drewN ?_ _) | with_reducible (refine Below.trans ?_ (Below.mono (by assumption) ?_)) | omega | (simp; done) | (simp; omega)))
          · have E := Lib.hid (HR.out.trans (if_neg h2))
            by_cases h22 : k ≤ 2
            · have d2 : decide (k ≤ 2) = true := decide_eq_true h22
              have d0 : ((acc.length : Int) == 0) = false := by rw [beq_eq_false_iff_ne]; intro h; exact h2 ⟨h22, by omega⟩
              have ha0 : ¬ acc.length = 0 := fun h => h2 ⟨h22, h⟩
              clear h2
              go_wp2
              refine bodyPost_ret (v := .tuple #[qdv ⟨k, ⟨x1, x3⟩, rb, acc⟩ (.slice ao acc.length ac), .int .i64 0, .int .i64 0]) (by simp [results, Tryd.results14, go_sem, ca]) rfl ⟨_, by rw [E.out], ?_, ?_⟩
              · rw [E.out]
                refine (Sl.of_own (HO.out.kept (row := some w.heap.size) ?_ (.inr (fun e => by have := (HO.out.lt _ e).1; omega)))).a
                repeat' (first | exact World.grownBy.refl _ _ | refine gb_setCell ?_ _)
              · have hb4 := HB.out
                (repeat' (first | with_reducible exact Below.refl _ _ | with_reducible assumption | with_reducible (refine Below.setCell ?_ ?_ _) | with_reducible (refine Below.alloc ?_ ?_ _) | with_reducible (refine below_drew ?_) | with_reducible (refine below_drewN ?_ _) | with_reducible (refine Below.trans ?_ (Below.mono (by assumption) ?_)) | omega | (simp; done) | (simp; omega)))
            · have d2 : decide (k ≤ 2) = false := decide_eq_false h22
              clear h2
              go_wp2
              refine bodyPost_ret (v := .tuple #[qdv ⟨k, ⟨x1, x3⟩, rb, acc⟩ (.slice ao acc.length ac), .int .i64 0, .int .i64 0]) (by simp [results, Tryd.results14, go_sem, ca]) rfl ⟨_, by rw [E.out], ?_, ?_⟩
              · rw [E.out]
                refine (Sl.of_own (HO.out.kept (row := some w.heap.size) ?_ (.inr (fun e => by have := (HO.out.lt _ e).1; omega)))).a
                repeat' (first | exact World.grownBy.refl _ _ | refine gb_setCell ?_ _)
              · have hb4 := HB.out
                (repeat' (first | with_reducible exact Below.refl _ _ | with_reducible assumption | with_reducible (refine Below.setCell ?_ ?_ _) | with_reducible (refine Below.alloc ?_ ?_ _) | with_reducible (refine below_drew ?_) | with_reducible (refine below_drewN ?_ _) | with_reducible (refine Below.trans ?_ (Below.mono (by assumption) ?_)) | omega | (simp; done) | (simp; omega)))
    · obtain rfl : j = 6 := by omega
      have E := Lib.hid (E.out.trans (refQ_none l en HN.out))
      rw [bestTo_six] at hbt ⊢
      have HB := Lib.hid (HB.out.trans (HW.out.mono (Nat.le_of_lt hD1)))
      obtain ⟨ca, fa, za⟩ := HD.out.below HW.out
      by_cases hb : bestQ l = l.length
      · have E := Lib.hid (show res = (noQd, en, 3) by rw [E.out]; exact if_pos hb)
        have db : ((bestQ l : Int) == (l.length : Int)) = true := by rw [beq_iff_eq]; omega
        generalize bestQ l = bq at *
        go_wp2_with fail
        refine (EN.out _).mono ?_
        rintro e9 w9 ⟨rfl, rfl⟩
        go_wp2
        refine bodyPost_ret (v := .tuple #[qdv noQd (.slice none 0 0), .int .i64 en, .int .i64 3]) (by simp [results, Tryd.results14, go_sem, ca, noQd, noR]) rfl ⟨_, by rw [E.out], by rw [E.out]; exact (Sl.nil _ _).a, ?_⟩
        have hb4 := HB.out
        (repeat' (first | with_reducible exact Below.refl _ _ | with_reducible assumption | with_reducible (refine Below.setCell ?_ ?_ _) | with_reducible (refine Below.alloc ?_ ?_ _) | with_reducible (refine below_drew ?_) | with_reducible (refine below_drewN ?_ _) | with_reducible (refine Below.trans ?_ (Below.mono (by assumption) ?_)) | omega | (simp; done) | (simp; omega)))
      · have db : ((bestQ l : Int) == (l.length : Int)) = false := by rw [beq_eq_false_iff_ne]; omega
        have hbl : bestQ l < l.length := by omega
        have E8 := Lib.hid (show res = (noQd, (l.getD (bestQ l) ⟨0, [], 0⟩).col, 2) by rw [E.out]; exact if_neg hb)
        obtain ⟨b, off, cap, he, hc, hmx, hlt2, hx⟩ := hsl1.out.pos (by omega)
        simp only [Value.slice.injEq, true_and] at he
        obtain ⟨rfl, rfl⟩ := he
        have q2 := (HW.out.cell (p := ⟨b, off + bestQ l * 3 + 2, none⟩) hlt2).trans (tok_cells hx (bestQ l) hbl).2.2
        have hbV : b < wr.heap.size := Nat.lt_of_lt_of_le hlt2 HW.out.size
        have hbD := HOT.out b off rfl
        have dn : decide ((bestQ l : Int) < (l.length : Int)) = true := by (rw [decide_eq_true_iff]; omega)
        have E := Lib.hid (show res = (noQd, l[bestQ l].col, 2) by rw [E8.out, List.getD_eq_getElem?_getD, List.getElem?_eq_getElem hbl]; rfl)
        clear hx E8
        generalize l[bestQ l] = t at *
        generalize bestQ l = bq at *
        go_wp2_with fail
        go_region
        try go_wp2
        refine bodyPost_ret (v := .tuple #[qdv noQd (.slice none 0 0), .int .i64 t.col, .int .i64 2]) (by simp [results, Tryd.results14, go_sem, ca, noQd, noR]) rfl ⟨_, by rw [E.out], by rw [E.out]; exact (Sl.nil _ _).a, ?_⟩
        have hb4 := HB.out
        (repeat' (first | with_reducible exact Below.refl _ _ | with_reducible assumption | with_reducible (refine Below.setCell ?_ ?_ _) | with_reducible (refine Below.alloc ?_ ?_ _) | with_reducible (refine below_drew ?_) | with_reducible (refine below_drewN ?_ _) | with_reducible (refine Below.trans ?_ (Below.mono (by assumption) ?_)) | omega | (simp; done) | (simp; omega)))
end Go.Proofs.YtedkkegjiikcmaaDoor
namespace Go.Proofs.YtedkkegjiikcmaaDoor
open Go.RowKit Go.Shelf

set_option maxRecDepth 100000 in
set_option maxHeartbeats 8000000 in
theorem law4_QueryParses (s : ByteArray) (w : World) (hg : Gl w) (hs : s.size ≤ 9223372036854775807) :
    Calls Tryd.prog 4 #[.string s] w fun e w' => e = .returned (.bool true) ∧ Below w.heap.size w w' := by
  have HL := Lib.hid (fun W (h : Gl W) => law4_livesQ W h)
  have HG := Lib.hid hg
  have hr : (s.extract 0 (min (s.size : Int) 300).toNat).size ≤ 300 := by simp; omega
  clear hg
  go_enter Tryd.func4, Tryd.ntmps4
  go_wp2_with fail
  generalize s.extract 0 (min (s.size : Int) 300).toNat = r at hr ⊢
  have P1 := Lib.hid (query_Parse r w (by omega) HG.out)
  have P2 := Lib.hid (fun W => ref4_Parse r W (by omega))
  have P3 := Lib.hid (fun W => ref2_Tokens_any r W (by omega))
  have P4 := Lib.hid (fun W h => query_Is r W h (by omega))
  have EI := Lib.hid (show isQ r = isQT (tokens (bl r)) from rfl)
  generalize parseQ r = res at P1 P2
  generalize isQ r = iq at *
  generalize tokens (bl r) = t at *
  obtain ⟨q, i, y⟩ := res
  have SS := Lib.hid (fun va vb W h1 h2 => ref4_SameQ q q va vb W h1 h2)
  rw [show sameQ q q = true from sameQ_iff.2 rfl] at SS
  obtain ⟨k, ⟨x1, x2⟩, ⟨x3, x4⟩, us⟩ := q
  obtain ⟨l, i2, y2⟩ := t
  dsimp only at P1 P2 SS EI
  refine P1.out.mono ?_
  rintro e w1 ⟨v1, rfl, hv1, hb1⟩
  dsimp only at hv1
  have HV1 := Lib.hid hv1
  have HB1 := Lib.hid hb1
  obtain ⟨o1, c1, rfl⟩ := hv1.form
  clear hv1 P1 hb1
  go_wp2_with fail
  refine (P2.out _).mono ?_
  rintro e w2 ⟨v2, rfl, hv2, hb2⟩
  dsimp only at hv2
  have HV2 := Lib.hid hv2
  obtain ⟨o2, c2, rfl⟩ := hv2.form
  have HA2 := Lib.hid (keep1 hb2)
  have hb12 : Below w1.heap.size w1 w2 := ((Below.refl _ _).alloc (Nat.le_refl _) _).trans (hb2.mono (by simp))
  have HV1 := Lib.hid (HV1.out.below hb12)
  have HB2 := Lib.hid (HB1.out.trans (hb12.mono HB1.out.size))
  have hz12 := hb12.size
  clear hv2 P2 hb2 hb12
  go_wp2_with fail
  refine (P3.out _).mono ?_
  rintro e w3 ⟨va, rfl, hown, hb3⟩
  obtain ⟨sa, sc, rfl⟩ := own_form hown
  have HSL := Lib.hid (Sl.of_own hown)
  have HA := Lib.hid ((HA2.out.alloc _).below hb3)
  have HC := Lib.hid (keep1 hb3)
  have hb23 : Below w2.heap.size w2 w3 := ((Below.refl _ _).alloc (Nat.le_refl _) _).trans (hb3.mono (by simp))
  have HV1 := Lib.hid (HV1.out.below hb23)
  have HV2 := Lib.hid (HV2.out.below hb23)
  have HB3 := Lib.hid (HB2.out.trans (hb23.mono HB2.out.size))
  have hn1 := HA.out.2.2
  have hn2 := HC.out.2.2
  clear hown hb3 hb23 HA2 P3
  dsimp only at HSL ⊢
  go_upto_region 5 with fail
  go_cut [12] (fun s12 wx => s12 = .bool iq ∧ wx = w3)
  case first =>
    by_cases hy : y2 = 0
    case neg =>
      have R := Lib.hid (show iq = false by rw [EI.out]; exact if_neg hy)
      have d : (y2 == 0) = false := by simpa using hy
      clear EI hy
      go_wp2
      go_meet
      exact ⟨by rw [R.out], rfl⟩
    subst hy
    cases l with
    | nil =>
      have R := Lib.hid (show iq = false by rw [EI.out]; rfl)
      clear EI
      go_wp2
      go_meet
      exact ⟨by rw [R.out], rfl⟩
    | cons t tl =>
      obtain ⟨b, off, cap, he, hc, hm, hlt, hx⟩ := HSL.out.pos (by simp)
      simp only [Value.slice.injEq, true_and] at he
      obtain ⟨rfl, rfl⟩ := he
      obtain ⟨t0, t1, t2⟩ := tk_head hx
      have R := Lib.hid (show iq = (decide (t.tx = wAlways) || decide (t.tx = wCan)) by rw [EI.out]; rfl)
      rw [show (⟨t.text.toArray⟩ : ByteArray) = t.tx from rfl] at t1
      have d1 := eq_always t.tx
      have d2 := eq_can t.tx
      have d0 : decide ((0 : Int) < (tl.length : Int) + 1) = true := by (rw [decide_eq_true_iff]; omega)
      clear EI hx t0 t2
      generalize t.tx = x at *
      cases h1 : decide (x = wAlways) with
      | true =>
        rw [h1] at d1
        replace R := Lib.hid (show iq = true by rw [R.out, h1]; rfl)
        clear h1 d2
        go_wp2
        go_meet
        exact ⟨by rw [R.out], rfl⟩
      | false =>
        rw [h1] at d1
        replace R := Lib.hid (show iq = decide (x = wCan) by rw [R.out, h1]; rfl)
        clear h1
        generalize decide (x = wCan) = c at *
        go_wp2
        go_meet
        exact ⟨by rw [R.out], rfl⟩
  case rest =>
  obtain ⟨rfl, rfl⟩ := hcut
  have SK := Lib.hid (SS.out _ _ _ HV1.out HV2.out)
  obtain ⟨ca, fa, za⟩ := HA.out
  obtain ⟨cc, fc, zc⟩ := HC.out
  clear EI SS
  go_wp2_with fail
  refine SK.out.mono ?_
  rintro e w4 ⟨rfl, hb4⟩
  have HB4 := Lib.hid (HB3.out.trans (hb4.mono HB3.out.size))
  clear hb4 ca fa za cc fc zc SK
  go_wp2_with fail
  refine (P4.out _ (HG.out.below HB4.out)).mono ?_
  rintro e w5 ⟨rfl, hb5⟩
  have HB5 := Lib.hid (HB4.out.trans (hb5.mono HB4.out.size))
  clear hb5
  go_wp2_with fail
  refine (HL.out _ (HG.out.below HB5.out)).mono ?_
  rintro e w6 ⟨rfl, hb6⟩
  go_wp2
  go_ret
  exact ⟨rfl, HB5.out.trans (hb6.mono HB5.out.size)⟩
end Go.Proofs.YtedkkegjiikcmaaDoor
namespace Go.Proofs.YtedkkegjiikcmaaDoor
open Go.ChangeShapes Go.WideShapes Go.ChangeAt Go.RowKit

section
variable {H : Type} {enc : TypeId × Value → H} {w : World} {base fuel n : Nat} {sp : Nat → Bool} {held : Bool} {cs : List Value} {x : DataW H × List MemPlace} {v : Value} {d : DataW H} {ps : List MemPlace}
def dStr (H : Type) (s : ByteArray) : DataW H := .lit (.string s.data.toList)
end
end Go.Proofs.YtedkkegjiikcmaaDoor
