/- A region that draws its order and ends in a store into a cell that it loads: what is loaded is held up to the last operation, which waits for all others. What a difference makes of a policy: delta.Apply, crupperref32.Apply; delta.Tightens (printed by gen_dlapply.py). -/
import Derived.Test.YtmpanikeeeoikaaGreatPart12
import Derived.Test.YtmpanikeeeoikaaGreatPart13
namespace Go.Proofs.YtmpanikeeeoikaaGreat
open Go.RowKit Go.Shelf

section
variable {P : Program} {ops : Array Oper} {Q : Exit → Act → World → Prop} {md : Region.Mode} {S : World → Prop} {last : Nat}

/-- Operation j waits for operation i, at once or by way of others. -/
def underB (md : Region.Mode) (ops : Array Oper) : Nat → Nat → Nat → Bool
  | 0, _, _ => false
  | f + 1, j, i => match ops[j]? with
    | none => false
    | some o => o.after.any fun e => Region.binds md e && (e.on == i || underB md ops f e.on i)
/-- Of each operation that came up, all that it waits for came up. -/
def ClosedL (md : Region.Mode) (ops : Array Oper) (listed : Array Bool) : Prop :=
  ∀ j o, ops[j]? = some o → listed.getD j false = true → ∀ e ∈ o.after, Region.binds md e = true → listed.getD e.on false = true
def closedB (md : Region.Mode) (ops : Array Oper) (listed : Array Bool) : Bool :=
  (List.range ops.size).all fun j => !listed.getD j false || match ops[j]? with
    | some o => o.after.all fun e => !Region.binds md e || listed.getD e.on false
    | none => true
theorem closedB_spec {listed : Array Bool} (h : closedB md ops listed = true) : ClosedL md ops listed := by
  intro j o ho hl e he hb
  have h1 := List.all_eq_true.1 h j (List.mem_range.2 (Array.getElem?_eq_some_iff.1 ho).1)
  rw [hl, ho] at h1
  simp only [Bool.not_true, Bool.false_or] at h1
  have h2 := Array.all_eq_true_iff_forall_mem.1 h1 e he
  rw [hb] at h2
  simpa using h2
theorem under_listed {listed : Array Bool} (hc : ClosedL md ops listed) : ∀ (f j i : Nat), underB md ops f j i = true →
    (∀ o, ops[j]? = some o → ∀ e ∈ o.after, Region.binds md e = true → listed.getD e.on false = true) → listed.getD i false = true
  | 0, _, _, h, _ => by cases h
  | f + 1, j, i, h, hl => by
    unfold underB at h
    cases ho : ops[j]? with
    | none => rw [ho] at h; cases h
    | some o =>
      rw [ho] at h
      obtain ⟨e, he, hb⟩ := Array.any_eq_true'.1 h
      rw [Bool.and_eq_true, Bool.or_eq_true] at hb
      have h2 := hl o ho e he hb.1
      rcases hb.2 with h1 | h1
      · rw [← (beq_iff_eq.1 h1)]; exact h2
      · exact under_listed hc f e.on i h1 (fun o' ho' e' he' hb' => hc _ o' ho' h2 e' he' hb')
theorem closed_set {listed : Array Bool} {j : Nat} (hc : ClosedL md ops listed) (hj : j ∈ Region.ready md ops listed) : ClosedL md ops (listed.setIfInBounds j true) := by
  intro k o ho hl e he hb
  by_cases hk : k = j
  · subst hk
    obtain ⟨_, o', ho', hall⟩ := mem_ready.1 hj
    rw [ho] at ho'; cases ho'
    exact getD_set_true (hall e he hb)
  · rw [getD_set_ne false (Ne.symm hk)] at hl
    exact getD_set_true (hc k o ho hl e he hb)

/-- Whatever order is picked from here on; S holds behind each operation but the last one. -/
def wpAnyL (P : Program) (md : Region.Mode) (ops : Array Oper) (Q : Exit → Act → World → Prop) (S : World → Prop) (last : Nat) : Nat → Array Bool → Act → World → Prop
  | 0, listed, a, w => Region.ready md ops listed = [] ∧ Q .normal a w
  | fuel + 1, listed, a, w =>
    (Region.ready md ops listed = [] → Q .normal a w) ∧
    ∀ i ∈ Region.ready md ops listed, wpOp P ops Q i (fun a' w' => (i = last ∨ S w') ∧ wpAnyL P md ops Q S last fuel (listed.setIfInBounds i true) a' w') a w
theorem wpAny_of_l : ∀ (fuel : Nat) (listed : Array Bool) (a : Act) (w : World), wpAnyL P md ops Q S last fuel listed a w → wpAny P md ops Q fuel listed a w
  | 0, _, _, _, h => h
  | fuel + 1, _, _, _, h => ⟨h.1, fun i hi => wpOp_mono (fun a' w' h' => wpAny_of_l fuel _ a' w' h'.2) (h.2 i hi)⟩
theorem wpAnyL_first {i : Nat} {oi : Oper} {v : Value} (hi : ops[i]? = some oi) (hsel : ∀ (j : Nat) (o : Oper) cs b, ops[j]? = some o → o.op ≠ .select cs b)
    (hQ : ∀ c a w, Q (.panic c) (a.put oi.dst v) w → Q (.panic c) a w) (f : Nat) (hu : underB md ops f last i = true) :
    ∀ (fuel : Nat) (listed : Array Bool) (a : Act) (w : World), ClosedL md ops listed →
      (∀ j oj, ops[j]? = some oj → j ≠ i → listed.getD j true = false → (∀ e ∈ oj.after, Region.binds md e = true → e.on ≠ i) → oi.apart ops oj = true) →
      i ∈ Region.ready md ops listed → YieldsIf P ops S oi v a → S w →
      wpAnyL P md ops Q S last fuel (listed.setIfInBounds i true) (a.put oi.dst v) w → wpAnyL P md ops Q S last (fuel + 1) listed a w := by
  intro fuel
  induction fuel with
  | zero =>
    intro listed a w _ _ hr hy hS H
    refine ⟨fun h => (by rw [h] at hr; cases hr), fun j hj => ?_⟩
    by_cases hji : j = i
    · subst hji; exact hy.wpOp hi hS ⟨.inr hS, H⟩
    · have := ready_mono hj hji
      rw [H.1] at this
      cases this
  | succ fuel ih =>
    intro listed a w hc hfree hr hy hS H
    refine ⟨fun h => (by rw [h] at hr; cases hr), fun j hj => ?_⟩
    by_cases hji : j = i
    · subst hji; exact hy.wpOp hi hS ⟨.inr hS, H⟩
    · have h1 := H.2 j (ready_mono hj hji)
      obtain ⟨hjun, oj, hoj, hall⟩ := mem_ready.1 hj
      have hiun := (mem_ready.1 hr).1
      have noti : listed.getD i false = true → False := fun h1 => by
        rcases Nat.lt_or_ge i listed.size with h' | h'
        · simp [h'] at hiun h1; rw [hiun] at h1; cases h1
        · simp [Array.getElem?_eq_none h'] at h1
      have hnot : ∀ e ∈ oj.after, Region.binds md e = true → e.on ≠ i := fun e he hb heq => noti (heq ▸ hall e he hb)
      have hlast : j ≠ last := fun e => by
        subst e
        exact noti (under_listed hc _ _ _ hu (fun o ho e he hb => by rw [hoj] at ho; cases ho; exact hall e he hb))
      have h2 := wpOp_putIf hoj (hfree j oj hoj hji hjun hnot) (fun cs b => hsel i oi cs b hi) (fun cs b => hsel j oj cs b hoj) hQ hy h1
      have hfree' : ∀ k ok, ops[k]? = some ok → k ≠ i → (listed.setIfInBounds j true).getD k true = false →
          (∀ e ∈ ok.after, Region.binds md e = true → e.on ≠ i) → oi.apart ops ok = true := fun k ok hk hki hun hno => by
        refine hfree k ok hk hki ?_ hno
        by_cases hjk : j = k
        · subst hjk; exact hjun
        · rw [getD_set_ne true hjk] at hun; exact hun
      refine wpOp_mono (fun a' w' h3 => ⟨h3.2.1, ih (listed.setIfInBounds j true) a' w' (closed_set hc hj) hfree' (ready_mono hr (Ne.symm hji)) h3.1 (h3.2.1.resolve_left hlast) ?_⟩) h2
      rw [Array.setIfInBounds_comm _ _ hji]
      exact h3.2.2
theorem wpAnyL_done {listed : Array Bool} {a : Act} {w : World} (hr : Region.ready md ops listed = []) (h : Q .normal a w) :
    ∀ fuel, wpAnyL P md ops Q S last fuel listed a w
  | 0 => ⟨hr, h⟩
  | _ + 1 => ⟨fun _ => h, by rw [hr]; simp⟩
end

/-- The beginning. -/
theorem wp_region_last {P : Program} {Q : Exit → Act → World → Prop} {S : World → Prop} {l : List Oper} {id : Nat} {a : Act} {w : World} (last : Nat) (hm : P.follows .mixedOrders = true) (hS : S w.drew)
    (h : S w.drew → wpAnyL P .any l.toArray Q S last l.toArray.size (Array.replicate l.toArray.size false) a w.drew) : (Code.region id l.toArray true).wp P Q a w :=
  wp_region_any hm (wpAny_of_l _ _ _ _ (h hS))
theorem last_yes {P : Program} {md : Region.Mode} {S : World → Prop} {Q : Exit → Act → World → Prop} {fuel last : Nat} {listed : Array Bool} {a : Act} {w : World} {v : Value} {oi : Oper} {l : List Oper} (i : Nat) (hi : nthOp l i = some oi)
    (hs : Region.noSelect l.toArray = true) (hf : Region.free md l.toArray listed i = true) (hr : (Region.ready md l.toArray listed).contains i = true) (hu : underB md l.toArray l.length last i = true) (hc : closedB md l.toArray listed = true)
    (hQ : ∀ c a w, Q (.panic c) (a.put oi.dst v) w → Q (.panic c) a w) (hw : Region.wanted oi (yielded l.toArray a.tmps) = true) (hS : S w) (hy : ∀ w, S w → (execOp a.eval oi).run P w = .ok (.value v) w)
    (h : wpAnyL P md l.toArray Q S last fuel (listed.setIfInBounds i true) (a.put oi.dst v) w) : wpAnyL P md l.toArray Q S last (fuel + 1) listed a w := by
  have hi' : l.toArray[i]? = some oi := by rw [nthOp_get]; exact hi
  exact wpAnyL_first hi' (Region.noSelect_spec hs) hQ _ hu fuel listed a w (closedB_spec hc) (Region.free_spec hi' hf) (by simpa using hr) (Or.inl ⟨hw, hy⟩) hS h
theorem last_call {P : Program} {md : Region.Mode} {S : World → Prop} {Q : Exit → Act → World → Prop} {fuel last : Nat} {listed : Array Bool} {a : Act} {w : World} {oi : Oper} {l : List Oper} (i : Nat) (hi : nthOp l i = some oi)
    (hr : Region.ready md l.toArray listed = [i])
    (h : ∀ K' : Act → World → Prop, Shut (∀ a w, S w → (S w → wpAnyL P md l.toArray Q S last fuel (listed.setIfInBounds i true) a w) → K' a w) → if Region.wanted oi (yielded l.toArray a.tmps) = true then Oper.wp P oi a w K' Q else K' (a.put oi.dst undef) w) :
    wpAnyL P md l.toArray Q S last (fuel + 1) listed a w := by
  refine ⟨fun h0 => (by rw [hr] at h0; cases h0), ?_⟩
  rw [hr]
  intro j hj
  rw [List.mem_singleton] at hj
  subst hj
  exact wpOp_step (by rw [nthOp_get]; exact hi) (fun K' hK => h K' (fun a w hS hW => hK a w ⟨.inr hS, hW hS⟩))
/-- The last operation: behind it the region is at its end. -/
theorem last_end {P : Program} {md : Region.Mode} {S : World → Prop} {Q : Exit → Act → World → Prop} {fuel : Nat} {listed : Array Bool} {a : Act} {w : World} {oi : Oper} {l : List Oper} (i : Nat) (hi : nthOp l i = some oi)
    (hr : Region.ready md l.toArray listed = [i]) (hd : Region.ready md l.toArray (listed.setIfInBounds i true) = [])
    (h : ∀ K' : Act → World → Prop, Shut (∀ a w, Q .normal a w → K' a w) → if Region.wanted oi (yielded l.toArray a.tmps) = true then Oper.wp P oi a w K' Q else K' (a.put oi.dst undef) w) :
    wpAnyL P md l.toArray Q S i (fuel + 1) listed a w := by
  refine ⟨fun h0 => (by rw [hr] at h0; cases h0), ?_⟩
  rw [hr]
  intro j hj
  rw [List.mem_singleton] at hj
  subst hj
  exact wpOp_step (by rw [nthOp_get]; exact hi) (fun K' hK => h K' (fun a w hQ => hK a w ⟨.inl rfl, wpAnyL_done hd hQ _⟩))
end Go.Proofs.YtmpanikeeeoikaaGreat
namespace Go.Proofs.YtmpanikeeeoikaaGreat
open Go.RowKit Go.Shelf

theorem ThreeAt.putA {w wx : World} {A B C : Array Value} (h : ThreeAt w A B C wx) (o : Nat) (v : Value) (ho : o < A.size) : ThreeAt w (A.setIfInBounds o v) B C (wx.setCell ⟨w.heap.size, o, none⟩ v) :=
  ⟨h.a.put ho, h.b.far (by omega), h.c.far (by omega), below_put h.low (Nat.le_refl _)⟩
theorem ref10_OfMO (va vb : Value) (l m : List St) (w : World) (ha : SlA w 9 va l.length (l.flatMap St.cells)) (hb : SlA w 9 vb m.length (m.flatMap St.cells)) (hl : l.length ≤ 1000) :
    Calls Tryz.prog 27 #[va, vb, .bool false] w fun e w' => ∃ v base, e = .returned v ∧ w.heap.size ≤ base ∧ base ≤ w'.heap.size ∧ w'.ownsRow base 52 9 v (minusS l m).length ((minusS l m).flatMap St.cells) ∧ Below w.heap.size w w' := by
  have h := ref10_OfO va vb l m w ha hb hl
  rw [← ord_filter] at h
  exact h
theorem ref32_OutMO (va vb : Value) (l m : List Rl) (w : World) (ha : SlA w 2 va l.length (l.flatMap Rl.cells)) (hb : SlA w 2 vb m.length (m.flatMap Rl.cells)) (hl : l.length ≤ 1000) :
    Calls Tryz.prog 28 #[va, vb] w fun e w' => ∃ v base, e = .returned v ∧ w.heap.size ≤ base ∧ base ≤ w'.heap.size ∧ w'.ownsRow base 50 2 v (outR l m).length ((outR l m).flatMap Rl.cells) ∧ Below w.heap.size w w' := ref32_OutO va vb l m w ha hb hl
/-- A policy's three rows. -/
structure Rows3 (w : World) (y0 y1 y2 : Value) (l : List St) (g h : List Rl) : Prop where
  r0 : Sl w 9 y0 l.length (l.flatMap St.cells)
  r1 : Sl w 2 y1 g.length (g.flatMap Rl.cells)
  r2 : Sl w 2 y2 h.length (h.flatMap Rl.cells)
theorem Rows3.below {w w' : World} {y0 y1 y2 : Value} {l : List St} {g h : List Rl} (r : Rows3 w y0 y1 y2 l g h) (hb : Below w.heap.size w w') : Rows3 w' y0 y1 y2 l g h := ⟨r.r0.below hb, r.r1.below hb, r.r2.below hb⟩

set_option maxRecDepth 100000 in
set_option maxHeartbeats 16000000 in
theorem delta_Apply (v0 v1 v2 v3 x0 x1 x2 x3 x4 x5 : Value) (l : List St) (g h : List Rl) (qs : List Qv) (d : Dl) (k : Nat) (w : World) (hp : PolAt w v0 v1 v2 v3 l g h qs) (hd : DlAt w x0 x1 x2 x3 x4 x5 d)
    (n0 : l.length ≤ 300) (n1 : g.length ≤ 300) (n2 : h.length ≤ 300) (hk : d.le 300 k) :
    Calls Tryz.prog 14 #[pv v0 v1 v2 v3, dv x0 x1 x2 x3 x4 x5] w fun e w' => ∃ y0 y1 y2, e = .returned (pv y0 y1 y2 v3) ∧ Rows3 w' y0 y1 y2 (d.sames l) (d.grows g) (d.shrinks h) ∧ Below w.heap.size w w' := by
  have L0 : (minusS l d.gone).length ≤ 300 := Nat.le_trans (minus_len _ _) n0
  have C0 := Lib.hid (fun W (hb : Below w.heap.size w W) => stMinus v0 x1 l d.gone W (hp.rs.below hb) (hd.a1.below hb) (by omega))
  have U0 := Lib.hid (fun v W (hb : Below w.heap.size w W) hv => stUnion v x0 (minusS l d.gone) d.more W hv (hd.a0.below hb) (by omega) (by have := hk.n0; omega))
  have E0 : unionS (minusS l d.gone) d.more = d.sames l := rfl
  rw [E0] at U0
  clear E0
  generalize d.sames l = r0 at U0 ⊢
  generalize minusS l d.gone = m0 at C0 U0 L0
  have L1 : (outR g d.ungrow).length ≤ 300 := Nat.le_trans (out_lenR _ _) n1
  have C1 := Lib.hid (fun W (hb : Below w.heap.size w W) => delta_without v1 x3 g d.ungrow W (hp.rg.below hb) (hd.a3.below hb) (by omega))
  have U1 := Lib.hid (fun v W (hb : Below w.heap.size w W) hv => delta_with v x2 (outR g d.ungrow) d.grow W hv (hd.a2.below hb) (by omega) (by have := hk.n2; omega))
  have E1 : withR (outR g d.ungrow) d.grow = d.grows g := rfl
  rw [E1] at U1
  clear E1
  generalize d.grows g = r1 at U1 ⊢
  generalize outR g d.ungrow = m1 at C1 U1 L1
  have L2 : (outR h d.unshrink).length ≤ 300 := Nat.le_trans (out_lenR _ _) n2
  have C2 := Lib.hid (fun W (hb : Below w.heap.size w W) => delta_without v2 x5 h d.unshrink W (hp.rh.below hb) (hd.a5.below hb) (by omega))
  have U2 := Lib.hid (fun v W (hb : Below w.heap.size w W) hv => delta_with v x4 (outR h d.unshrink) d.shrink W hv (hd.a4.below hb) (by omega) (by have := hk.n4; omega))
  have E2 : withR (outR h d.unshrink) d.shrink = d.shrinks h := rfl
  rw [E2] at U2
  clear E2
  generalize d.shrinks h = r2 at U2 ⊢
  generalize outR h d.unshrink = m2 at C2 U2 L2
  obtain ⟨pa0, pc0, rfl⟩ := hp.rs.form
  obtain ⟨pa1, pc1, rfl⟩ := hp.rg.form
  obtain ⟨pa2, pc2, rfl⟩ := hp.rh.form
  obtain ⟨pa3, pc3, rfl⟩ := hp.rq.form
  obtain ⟨da0, dc0, rfl⟩ := hd.a0.form
  obtain ⟨da1, dc1, rfl⟩ := hd.a1.form
  obtain ⟨da2, dc2, rfl⟩ := hd.a2.form
  obtain ⟨da3, dc3, rfl⟩ := hd.a3.form
  obtain ⟨da4, dc4, rfl⟩ := hd.a4.form
  obtain ⟨da5, dc5, rfl⟩ := hd.a5.form
  have HT := Lib.hid (ThreeAt.new w #[.slice pa0 l.length pc0, .slice pa1 g.length pc1, .slice pa2 h.length pc2, .slice pa3 qs.length pc3] #[.slice da0 d.more.length dc0, .slice da1 d.gone.length dc1, .slice da2 d.grow.length dc2, .slice da3 d.ungrow.length dc3, .slice da4 d.shrink.length dc4, .slice da5 d.unshrink.length dc5] #[.slice none 0 0, .slice none 0 0, .slice none 0 0, .slice none 0 0] 26 30 26)
  clear hp hd hk
  go_enter Tryz.func14, Tryz.ntmps14
  go_wp2_with fail
  have HT := HT.out
  refine wp_region_last (S := (fun W => (∀ o, W.cell? ⟨w.heap.size, o, none⟩ = (#[.slice pa0 l.length pc0, .slice pa1 g.length pc1, .slice pa2 h.length pc2, .slice pa3 qs.length pc3] : Array Value)[o]?) ∧ (∀ o, W.cell? ⟨w.heap.size + 1, o, none⟩ = (#[.slice da0 d.more.length dc0, .slice da1 d.gone.length dc1, .slice da2 d.grow.length dc2, .slice da3 d.ungrow.length dc3, .slice da4 d.shrink.length dc4, .slice da5 d.unshrink.length dc5] : Array Value)[o]?))) 9 (by kernel_rfl) ⟨HT.drew.a.1, HT.drew.b.1⟩ (fun hHeld => ?_)
  have HT := HT.drew
  (refine last_yes (v := ?_) 0 rfl (by kernel_rfl) (by kernel_rfl) (by kernel_rfl) (by kernel_rfl) (by kernel_rfl) (fun _ _ _ h => h) (by rfl) (by assumption) ?_ ?_; rotate_left; focus ((intro w hSw); (try dsimp only at hSw); go_simp; (try with_reducible rfl)); (try simp only [Act.put, List.setIfInBounds_toArray, List.set_cons_zero, List.set_cons_succ])); (refine last_yes (v := ?_) 1 rfl (by kernel_rfl) (by kernel_rfl) (by kernel_rfl) (by kernel_rfl) (by kernel_rfl) (fun _ _ _ h => h) (by rfl) (by assumption) ?_ ?_; rotate_left; focus ((intro w hSw); (try dsimp only at hSw); go_simp; (try with_reducible rfl)); (try simp only [Act.put, List.setIfInBounds_toArray, List.set_cons_zero, List.set_cons_succ])); (refine last_yes (v := ?_) 2 rfl (by kernel_rfl) (by kernel_rfl) (by kernel_rfl) (by kernel_rfl) (by kernel_rfl) (fun _ _ _ h => h) (by rfl) (by assumption) ?_ ?_; rotate_left; focus ((intro w hSw); (try dsimp only at hSw); go_simp; (try with_reducible rfl)); (try simp only [Act.put, List.setIfInBounds_toArray, List.set_cons_zero, List.set_cons_succ])); (refine last_yes (v := ?_) 3 rfl (by kernel_rfl) (by kernel_rfl) (by kernel_rfl) (by kernel_rfl) (by kernel_rfl) (fun _ _ _ h => h) (by rfl) (by assumption) ?_ ?_; rotate_left; focus ((intro w hSw); (try dsimp only at hSw); go_simp; (try with_reducible rfl)); (try simp only [Act.put, List.setIfInBounds_toArray, List.set_cons_zero, List.set_cons_succ])); (refine last_yes (v := ?_) 5 rfl (by kernel_rfl) (by kernel_rfl) (by kernel_rfl) (by kernel_rfl) (by kernel_rfl) (fun _ _ _ h => h) (by rfl) (by assumption) ?_ ?_; rotate_left; focus ((intro w hSw); (try dsimp only at hSw); go_simp; (try with_reducible rfl)); (try simp only [Act.put, List.setIfInBounds_toArray, List.set_cons_zero, List.set_cons_succ])); (refine last_yes (v := ?_) 6 rfl (by kernel_rfl) (by kernel_rfl) (by kernel_rfl) (by kernel_rfl) (by kernel_rfl) (fun _ _ _ h => h) (by rfl) (by assumption) ?_ ?_; rotate_left; focus ((intro w hSw); (try dsimp only at hSw); go_simp; (try with_reducible rfl)); (try simp only [Act.put, List.setIfInBounds_toArray, List.set_cons_zero, List.set_cons_succ]))
  (refine last_call 4 rfl (by kernel_rfl) (fun K hK => ?_); go_simp)
  go_at_call 25; refine (C0.out _ HT.low).mono ?_; rintro e wa0 ⟨x, rfl, hs, hbq⟩; have HT := HT.later hbq; have HM := Lib.hid hs; obtain ⟨ma, mc, hm⟩ := hs.form; subst hm; clear hs hbq C0
  (refine hK.out _ _ (⟨HT.a.1, HT.b.1⟩) (fun hHeld => ?_); clear hK K; (try simp only [Act.put, List.setIfInBounds_toArray, List.set_cons_zero, List.set_cons_succ]))
  (refine last_call 7 rfl (by kernel_rfl) (fun K hK => ?_); go_simp)
  go_at_call 32; refine (U0.out _ _ HT.low HM.out.a).mono ?_; rintro e wb0 ⟨x, rfl, hs, hbq⟩; have HT := HT.later hbq; have HY0 := Lib.hid hs; obtain ⟨ya0, yc0, hy⟩ := hs.form; subst hy; clear hs hbq U0 HM
  (refine hK.out _ _ (⟨HT.a.1, HT.b.1⟩) (fun hHeld => ?_); clear hK K; (try simp only [Act.put, List.setIfInBounds_toArray, List.set_cons_zero, List.set_cons_succ]))
  (refine last_yes (v := ?_) 8 rfl (by kernel_rfl) (by kernel_rfl) (by kernel_rfl) (by kernel_rfl) (by kernel_rfl) (fun _ _ _ h => h) (by rfl) (by assumption) ?_ ?_; rotate_left; focus ((intro w hSw); (try dsimp only at hSw); go_simp; (try with_reducible rfl)); (try simp only [Act.put, List.setIfInBounds_toArray, List.set_cons_zero, List.set_cons_succ]))
  have HBS : BlkS wb0 w.heap.size 4 := ⟨_, HT.a, rfl, by simp [isSl]⟩
  obtain ⟨ca, fa, za⟩ := HT.a
  (refine last_end 9 rfl (by kernel_rfl) (by kernel_rfl) (fun K hK => ?_); go_simp)
  clear ca fa za
  generalize hW : wb0.setCell ⟨w.heap.size, 0, none⟩ (.slice ya0 r0.length yc0) = W0
  have HT : ThreeAt w #[.slice ya0 r0.length yc0, .slice pa1 g.length pc1, .slice pa2 h.length pc2, .slice pa3 qs.length pc3] #[.slice da0 d.more.length dc0, .slice da1 d.gone.length dc1, .slice da2 d.grow.length dc2, .slice da3 d.ungrow.length dc3, .slice da4 d.shrink.length dc4, .slice da5 d.unshrink.length dc5] #[.slice none 0 0, .slice none 0 0, .slice none 0 0, .slice none 0 0] W0 := by rw [← hW]; simpa using HT.putA 0 (.slice ya0 r0.length yc0) (by simp)
  have HY0 := Lib.hid (show Sl W0 9 (.slice ya0 r0.length yc0) r0.length (r0.flatMap St.cells) from by rw [← hW]; exact HY0.out.set HBS (st_noSl _))
  clear hW HBS
  refine hK.out _ _ ?_
  clear hK K
  go_wp2_with fail
  refine wp_region_last (S := (fun W => (∀ o, W.cell? ⟨w.heap.size, o, none⟩ = (#[.slice ya0 r0.length yc0, .slice pa1 g.length pc1, .slice pa2 h.length pc2, .slice pa3 qs.length pc3] : Array Value)[o]?) ∧ (∀ o, W.cell? ⟨w.heap.size + 1, o, none⟩ = (#[.slice da0 d.more.length dc0, .slice da1 d.gone.length dc1, .slice da2 d.grow.length dc2, .slice da3 d.ungrow.length dc3, .slice da4 d.shrink.length dc4, .slice da5 d.unshrink.length dc5] : Array Value)[o]?))) 9 (by kernel_rfl) ⟨HT.drew.a.1, HT.drew.b.1⟩ (fun hHeld => ?_)
  have HT := HT.drew
  have HY0 := Lib.hid (HY0.out.below (below_drew (Below.refl _ _)))
  (refine last_yes (v := ?_) 0 rfl (by kernel_rfl) (by kernel_rfl) (by kernel_rfl) (by kernel_rfl) (by kernel_rfl) (fun _ _ _ h => h) (by rfl) (by assumption) ?_ ?_; rotate_left; focus ((intro w hSw); (try dsimp only at hSw); go_simp; (try with_reducible rfl)); (try simp only [Act.put, List.setIfInBounds_toArray, List.set_cons_zero, List.set_cons_succ])); (refine last_yes (v := ?_) 1 rfl (by kernel_rfl) (by kernel_rfl) (by kernel_rfl) (by kernel_rfl) (by kernel_rfl) (fun _ _ _ h => h) (by rfl) (by assumption) ?_ ?_; rotate_left; focus ((intro w hSw); (try dsimp only at hSw); go_simp; (try with_reducible rfl)); (try simp only [Act.put, List.setIfInBounds_toArray, List.set_cons_zero, List.set_cons_succ])); (refine last_yes (v := ?_) 2 rfl (by kernel_rfl) (by kernel_rfl) (by kernel_rfl) (by kernel_rfl) (by kernel_rfl) (fun _ _ _ h => h) (by rfl) (by assumption) ?_ ?_; rotate_left; focus ((intro w hSw); (try dsimp only at hSw); go_simp; (try with_reducible rfl)); (try simp only [Act.put, List.setIfInBounds_toArray, List.set_cons_zero, List.set_cons_succ])); (refine last_yes (v := ?_) 3 rfl (by kernel_rfl) (by kernel_rfl) (by kernel_rfl) (by kernel_rfl) (by kernel_rfl) (fun _ _ _ h => h) (by rfl) (by assumption) ?_ ?_; rotate_left; focus ((intro w hSw); (try dsimp only at hSw); go_simp; (try with_reducible rfl)); (try simp only [Act.put, List.setIfInBounds_toArray, List.set_cons_zero, List.set_cons_succ])); (refine last_yes (v := ?_) 5 rfl (by kernel_rfl) (by kernel_rfl) (by kernel_rfl) (by kernel_rfl) (by kernel_rfl) (fun _ _ _ h => h) (by rfl) (by assumption) ?_ ?_; rotate_left; focus ((intro w hSw); (try dsimp only at hSw); go_simp; (try with_reducible rfl)); (try simp only [Act.put, List.setIfInBounds_toArray, List.set_cons_zero, List.set_cons_succ])); (refine last_yes (v := ?_) 6 rfl (by kernel_rfl) (by kernel_rfl) (by kernel_rfl) (by kernel_rfl) (by kernel_rfl) (fun _ _ _ h => h) (by rfl) (by assumption) ?_ ?_; rotate_left; focus ((intro w hSw); (try dsimp only at hSw); go_simp; (try with_reducible rfl)); (try simp only [Act.put, List.setIfInBounds_toArray, List.set_cons_zero, List.set_cons_succ]))
  (refine last_call 4 rfl (by kernel_rfl) (fun K hK => ?_); go_simp)
  go_at_call 26; refine (C1.out _ HT.low).mono ?_; rintro e wa1 ⟨x, rfl, hs, hbq⟩; have HT := HT.later hbq; have HY0 := Lib.hid (HY0.out.below hbq); have HM := Lib.hid hs; obtain ⟨ma, mc, hm⟩ := hs.form; subst hm; clear hs hbq C1
  (refine hK.out _ _ (⟨HT.a.1, HT.b.1⟩) (fun hHeld => ?_); clear hK K; (try simp only [Act.put, List.setIfInBounds_toArray, List.set_cons_zero, List.set_cons_succ]))
  (refine last_call 7 rfl (by kernel_rfl) (fun K hK => ?_); go_simp)
  go_at_call 33; refine (U1.out _ _ HT.low HM.out.a).mono ?_; rintro e wb1 ⟨x, rfl, hs, hbq⟩; have HT := HT.later hbq; have HY0 := Lib.hid (HY0.out.below hbq); have HY1 := Lib.hid hs; obtain ⟨ya1, yc1, hy⟩ := hs.form; subst hy; clear hs hbq U1 HM
  (refine hK.out _ _ (⟨HT.a.1, HT.b.1⟩) (fun hHeld => ?_); clear hK K; (try simp only [Act.put, List.setIfInBounds_toArray, List.set_cons_zero, List.set_cons_succ]))
  (refine last_yes (v := ?_) 8 rfl (by kernel_rfl) (by kernel_rfl) (by kernel_rfl) (by kernel_rfl) (by kernel_rfl) (fun _ _ _ h => h) (by rfl) (by assumption) ?_ ?_; rotate_left; focus ((intro w hSw); (try dsimp only at hSw); go_simp; (try with_reducible rfl)); (try simp only [Act.put, List.setIfInBounds_toArray, List.set_cons_zero, List.set_cons_succ]))
  have HBS : BlkS wb1 w.heap.size 4 := ⟨_, HT.a, rfl, by simp [isSl]⟩
  obtain ⟨ca, fa, za⟩ := HT.a
  (refine last_end 9 rfl (by kernel_rfl) (by kernel_rfl) (fun K hK => ?_); go_simp)
  clear ca fa za
  generalize hW : wb1.setCell ⟨w.heap.size, 1, none⟩ (.slice ya1 r1.length yc1) = W1
  have HT : ThreeAt w #[.slice ya0 r0.length yc0, .slice ya1 r1.length yc1, .slice pa2 h.length pc2, .slice pa3 qs.length pc3] #[.slice da0 d.more.length dc0, .slice da1 d.gone.length dc1, .slice da2 d.grow.length dc2, .slice da3 d.ungrow.length dc3, .slice da4 d.shrink.length dc4, .slice da5 d.unshrink.length dc5] #[.slice none 0 0, .slice none 0 0, .slice none 0 0, .slice none 0 0] W1 := by rw [← hW]; simpa using HT.putA 1 (.slice ya1 r1.length yc1) (by simp)
  have HY0 := Lib.hid (show Sl W1 9 (.slice ya0 r0.length yc0) r0.length (r0.flatMap St.cells) from by rw [← hW]; exact HY0.out.set HBS (st_noSl _))
  have HY1 := Lib.hid (show Sl W1 2 (.slice ya1 r1.length yc1) r1.length (r1.flatMap Rl.cells) from by rw [← hW]; exact HY1.out.set HBS (rl_noSl _))
  clear hW HBS
  refine hK.out _ _ ?_
  clear hK K
  go_wp2_with fail
  refine wp_region_last (S := (fun W => (∀ o, W.cell? ⟨w.heap.size, o, none⟩ = (#[.slice ya0 r0.length yc0, .slice ya1 r1.length yc1, .slice pa2 h.length pc2, .slice pa3 qs.length pc3] : Array Value)[o]?) ∧ (∀ o, W.cell? ⟨w.heap.size + 1, o, none⟩ = (#[.slice da0 d.more.length dc0, .slice da1 d.gone.length dc1, .slice da2 d.grow.length dc2, .slice da3 d.ungrow.length dc3, .slice da4 d.shrink.length dc4, .slice da5 d.unshrink.length dc5] : Array Value)[o]?))) 9 (by kernel_rfl) ⟨HT.drew.a.1, HT.drew.b.1⟩ (fun hHeld => ?_)
  have HT := HT.drew
  have HY0 := Lib.hid (HY0.out.below (below_drew (Below.refl _ _)))
  have HY1 := Lib.hid (HY1.out.below (below_drew (Below.refl _ _)))
  (refine last_yes (v := ?_) 0 rfl (by kernel_rfl) (by kernel_rfl) (by kernel_rfl) (by kernel_rfl) (by kernel_rfl) (fun _ _ _ h => h) (by rfl) (by assumption) ?_ ?_; rotate_left; focus ((intro w hSw); (try dsimp only at hSw); go_simp; (try with_reducible rfl)); (try simp only [Act.put, List.setIfInBounds_toArray, List.set_cons_zero, List.set_cons_succ])); (refine last_yes (v := ?_) 1 rfl (by kernel_rfl) (by kernel_rfl) (by kernel_rfl) (by kernel_rfl) (by kernel_rfl) (fun _ _ _ h => h) (by rfl) (by assumption) ?_ ?_; rotate_left; focus ((intro w hSw); (try dsimp only at hSw); go_simp; (try with_reducible rfl)); (try simp only [Act.put, List.setIfInBounds_toArray, List.set_cons_zero, List.set_cons_succ])); (refine last_yes (v := ?_) 2 rfl (by kernel_rfl) (by kernel_rfl) (by kernel_rfl) (by kernel_rfl) (by kernel_rfl) (fun _ _ _ h => h) (by rfl) (by assumption) ?_ ?_; rotate_left; focus ((intro w hSw); (try dsimp only at hSw); go_simp; (try with_reducible rfl)); (try simp only [Act.put, List.setIfInBounds_toArray, List.set_cons_zero, List.set_cons_succ])); (refine last_yes (v := ?_) 3 rfl (by kernel_rfl) (by kernel_rfl) (by kernel_rfl) (by kernel_rfl) (by kernel_rfl) (fun _ _ _ h => h) (by rfl) (by assumption) ?_ ?_; rotate_left; focus ((intro w hSw); (try dsimp only at hSw); go_simp; (try with_reducible rfl)); (try simp only [Act.put, List.setIfInBounds_toArray, List.set_cons_zero, List.set_cons_succ])); (refine last_yes (v := ?_) 5 rfl (by kernel_rfl) (by kernel_rfl) (by kernel_rfl) (by kernel_rfl) (by kernel_rfl) (fun _ _ _ h => h) (by rfl) (by assumption) ?_ ?_; rotate_left; focus ((intro w hSw); (try dsimp only at hSw); go_simp; (try with_reducible rfl)); (try simp only [Act.put, List.setIfInBounds_toArray, List.set_cons_zero, List.set_cons_succ])); (refine last_yes (v := ?_) 6 rfl (by kernel_rfl) (by kernel_rfl) (by kernel_rfl) (by kernel_rfl) (by kernel_rfl) (fun _ _ _ h => h) (by rfl) (by assumption) ?_ ?_; rotate_left; focus ((intro w hSw); (try dsimp only at hSw); go_simp; (try with_reducible rfl)); (try simp only [Act.put, List.setIfInBounds_toArray, List.set_cons_zero, List.set_cons_succ]))
  (refine last_call 4 rfl (by kernel_rfl) (fun K hK => ?_); go_simp)
  go_at_call 26; refine (C2.out _ HT.low).mono ?_; rintro e wa2 ⟨x, rfl, hs, hbq⟩; have HT := HT.later hbq; have HY0 := Lib.hid (HY0.out.below hbq); have HY1 := Lib.hid (HY1.out.below hbq); have HM := Lib.hid hs; obtain ⟨ma, mc, hm⟩ := hs.form; subst hm; clear hs hbq C2
  (refine hK.out _ _ (⟨HT.a.1, HT.b.1⟩) (fun hHeld => ?_); clear hK K; (try simp only [Act.put, List.setIfInBounds_toArray, List.set_cons_zero, List.set_cons_succ]))
  (refine last_call 7 rfl (by kernel_rfl) (fun K hK => ?_); go_simp)
  go_at_call 33; refine (U2.out _ _ HT.low HM.out.a).mono ?_; rintro e wb2 ⟨x, rfl, hs, hbq⟩; have HT := HT.later hbq; have HY0 := Lib.hid (HY0.out.below hbq); have HY1 := Lib.hid (HY1.out.below hbq); have HY2 := Lib.hid hs; obtain ⟨ya2, yc2, hy⟩ := hs.form; subst hy; clear hs hbq U2 HM
  (refine hK.out _ _ (⟨HT.a.1, HT.b.1⟩) (fun hHeld => ?_); clear hK K; (try simp only [Act.put, List.setIfInBounds_toArray, List.set_cons_zero, List.set_cons_succ]))
  (refine last_yes (v := ?_) 8 rfl (by kernel_rfl) (by kernel_rfl) (by kernel_rfl) (by kernel_rfl) (by kernel_rfl) (fun _ _ _ h => h) (by rfl) (by assumption) ?_ ?_; rotate_left; focus ((intro w hSw); (try dsimp only at hSw); go_simp; (try with_reducible rfl)); (try simp only [Act.put, List.setIfInBounds_toArray, List.set_cons_zero, List.set_cons_succ]))
  have HBS : BlkS wb2 w.heap.size 4 := ⟨_, HT.a, rfl, by simp [isSl]⟩
  obtain ⟨ca, fa, za⟩ := HT.a
  (refine last_end 9 rfl (by kernel_rfl) (by kernel_rfl) (fun K hK => ?_); go_simp)
  clear ca fa za
  generalize hW : wb2.setCell ⟨w.heap.size, 2, none⟩ (.slice ya2 r2.length yc2) = W2
  have HT : ThreeAt w #[.slice ya0 r0.length yc0, .slice ya1 r1.length yc1, .slice ya2 r2.length yc2, .slice pa3 qs.length pc3] #[.slice da0 d.more.length dc0, .slice da1 d.gone.length dc1, .slice da2 d.grow.length dc2, .slice da3 d.ungrow.length dc3, .slice da4 d.shrink.length dc4, .slice da5 d.unshrink.length dc5] #[.slice none 0 0, .slice none 0 0, .slice none 0 0, .slice none 0 0] W2 := by rw [← hW]; simpa using HT.putA 2 (.slice ya2 r2.length yc2) (by simp)
  have HY0 := Lib.hid (show Sl W2 9 (.slice ya0 r0.length yc0) r0.length (r0.flatMap St.cells) from by rw [← hW]; exact HY0.out.set HBS (st_noSl _))
  have HY1 := Lib.hid (show Sl W2 2 (.slice ya1 r1.length yc1) r1.length (r1.flatMap Rl.cells) from by rw [← hW]; exact HY1.out.set HBS (rl_noSl _))
  have HY2 := Lib.hid (show Sl W2 2 (.slice ya2 r2.length yc2) r2.length (r2.flatMap Rl.cells) from by rw [← hW]; exact HY2.out.set HBS (rl_noSl _))
  clear hW HBS
  refine hK.out _ _ ?_
  clear hK K
  have HC : Blk W2 (w.heap.size + 1 + 1) #[.slice none 0 0, .slice none 0 0, .slice none 0 0, .slice none 0 0] := HT.c
  have HBS : BlkS W2 (w.heap.size + 1 + 1) 4 := ⟨_, HC, rfl, by simp [isSl]⟩
  have HL := HT.low
  obtain ⟨⟨ca, fa, za⟩, _, ⟨cc, fc, zc⟩, _⟩ := HT
  go_wp2
  clear ca fa za cc fc zc
  generalize hW : ((((W2.setCell ⟨w.heap.size + 1 + 1, 0, none⟩ (.slice ya0 r0.length yc0)).setCell ⟨w.heap.size + 1 + 1, 1, none⟩ (.slice ya1 r1.length yc1)).setCell ⟨w.heap.size + 1 + 1, 2, none⟩ (.slice ya2 r2.length yc2)).setCell ⟨w.heap.size + 1 + 1, 3, none⟩ (.slice pa3 qs.length pc3)) = W
  have HW : Blk W (w.heap.size + 1 + 1) #[.slice ya0 r0.length yc0, .slice ya1 r1.length yc1, .slice ya2 r2.length yc2, .slice pa3 qs.length pc3] := by rw [← hW]; simpa using ((((HC.put (o := 0) (v := .slice ya0 r0.length yc0) (by simp)).put (o := 1) (v := .slice ya1 r1.length yc1) (by simp)).put (o := 2) (v := .slice ya2 r2.length yc2) (by simp)).put (o := 3) (v := .slice pa3 qs.length pc3) (by simp))
  have HR := Lib.hid (show Rows3 W _ _ _ r0 r1 r2 from by rw [← hW]; exact ⟨HY0.out.puts (st_noSl _) [.slice ya0 r0.length yc0, .slice ya1 r1.length yc1, .slice ya2 r2.length yc2, .slice pa3 qs.length pc3] 0 _ HBS (by simp) (by simp [isSl]), HY1.out.puts (rl_noSl _) [.slice ya0 r0.length yc0, .slice ya1 r1.length yc1, .slice ya2 r2.length yc2, .slice pa3 qs.length pc3] 0 _ HBS (by simp) (by simp [isSl]), HY2.out.puts (rl_noSl _) [.slice ya0 r0.length yc0, .slice ya1 r1.length yc1, .slice ya2 r2.length yc2, .slice pa3 qs.length pc3] 0 _ HBS (by simp) (by simp [isSl])⟩)
  have HLOW := Lib.hid (show Below w.heap.size w W from by rw [← hW]; exact below_puts (by omega) [.slice ya0 r0.length yc0, .slice ya1 r1.length yc1, .slice ya2 r2.length yc2, .slice pa3 qs.length pc3] 0 _ HL)
  clear hW HBS HC
  obtain ⟨cw, fw, zw⟩ := HW
  refine bodyPost_ret (v := pv _ _ _ _) (by simp [results, Tryz.results14, go_sem, cw]) rfl ⟨_, _, _, rfl, HR.out, HLOW.out⟩
set_option maxRecDepth 100000 in
set_option maxHeartbeats 16000000 in
theorem ref32_Apply (v0 v1 v2 v3 x0 x1 x2 x3 x4 x5 : Value) (l : List St) (g h : List Rl) (qs : List Qv) (d : Dl) (k : Nat) (w : World) (hp : PolAt w v0 v1 v2 v3 l g h qs) (hd : DlAt w x0 x1 x2 x3 x4 x5 d)
    (n0 : l.length ≤ 300) (n1 : g.length ≤ 300) (n2 : h.length ≤ 300) (hk : d.le 300 k) :
    Calls Tryz.prog 15 #[pv v0 v1 v2 v3, dv x0 x1 x2 x3 x4 x5] w fun e w' => ∃ y0 y1 y2, e = .returned (pv y0 y1 y2 v3) ∧ Rows3 w' y0 y1 y2 (d.sames l) (d.grows g) (d.shrinks h) ∧ Below w.heap.size w w' := by
  have L0 : (minusS l d.gone).length ≤ 300 := Nat.le_trans (minus_len _ _) n0
  have C0 := Lib.hid (fun W (hb : Below w.heap.size w W) => ref10_OfMO v0 x1 l d.gone W (hp.rs.below hb) (hd.a1.below hb) (by omega))
  have U0 := Lib.hid (fun v W hv => ref3_Sort v (minusS l d.gone ++ d.more) W hv (by rw [List.length_append]; have := hk.n0; omega))
  have X0 := Lib.hid (fun W (hb : Below w.heap.size w W) => hd.a0.below hb)
  have N0 := hk.n0
  have E0 : insAll [] (minusS l d.gone ++ d.more) = d.sames l := rfl
  rw [E0] at U0
  clear E0
  generalize d.sames l = r0 at U0 ⊢
  generalize minusS l d.gone = m0 at C0 U0 L0
  have L1 : (outR g d.ungrow).length ≤ 300 := Nat.le_trans (out_lenR _ _) n1
  have C1 := Lib.hid (fun W (hb : Below w.heap.size w W) => ref32_OutMO v1 x3 g d.ungrow W (hp.rg.below hb) (hd.a3.below hb) (by omega))
  have U1 := Lib.hid (fun v W hv => ref5_Sort v (outR g d.ungrow ++ d.grow) W hv (by rw [List.length_append]; have := hk.n2; omega))
  have X1 := Lib.hid (fun W (hb : Below w.heap.size w W) => hd.a2.below hb)
  have N1 := hk.n2
  have E1 : insAllR [] (outR g d.ungrow ++ d.grow) = d.grows g := rfl
  rw [E1] at U1
  clear E1
  generalize d.grows g = r1 at U1 ⊢
  generalize outR g d.ungrow = m1 at C1 U1 L1
  have L2 : (outR h d.unshrink).length ≤ 300 := Nat.le_trans (out_lenR _ _) n2
  have C2 := Lib.hid (fun W (hb : Below w.heap.size w W) => ref32_OutMO v2 x5 h d.unshrink W (hp.rh.below hb) (hd.a5.below hb) (by omega))
  have U2 := Lib.hid (fun v W hv => ref5_Sort v (outR h d.unshrink ++ d.shrink) W hv (by rw [List.length_append]; have := hk.n4; omega))
  have X2 := Lib.hid (fun W (hb : Below w.heap.size w W) => hd.a4.below hb)
  have N2 := hk.n4
  have E2 : insAllR [] (outR h d.unshrink ++ d.shrink) = d.shrinks h := rfl
  rw [E2] at U2
  clear E2
  generalize d.shrinks h = r2 at U2 ⊢
  generalize outR h d.unshrink = m2 at C2 U2 L2
  obtain ⟨pa0, pc0, rfl⟩ := hp.rs.form
  obtain ⟨pa1, pc1, rfl⟩ := hp.rg.form
  obtain ⟨pa2, pc2, rfl⟩ := hp.rh.form
  obtain ⟨pa3, pc3, rfl⟩ := hp.rq.form
  obtain ⟨da0, dc0, rfl⟩ := hd.a0.form
  obtain ⟨da1, dc1, rfl⟩ := hd.a1.form
  obtain ⟨da2, dc2, rfl⟩ := hd.a2.form
  obtain ⟨da3, dc3, rfl⟩ := hd.a3.form
  obtain ⟨da4, dc4, rfl⟩ := hd.a4.form
  obtain ⟨da5, dc5, rfl⟩ := hd.a5.form
  obtain ⟨infs, his, hs0, hs1, hs2⟩ := info_parts st_info
  have HIS := Lib.hid his
  clear his
  obtain ⟨infr, hir, hr0, hr1, hr2⟩ := info_parts rl_info'
  have HIR := Lib.hid hir
  clear hir
  have HT := Lib.hid (ThreeAt.new w #[.slice pa0 l.length pc0, .slice pa1 g.length pc1, .slice pa2 h.length pc2, .slice pa3 qs.length pc3] #[.slice da0 d.more.length dc0, .slice da1 d.gone.length dc1, .slice da2 d.grow.length dc2, .slice da3 d.ungrow.length dc3, .slice da4 d.shrink.length dc4, .slice da5 d.unshrink.length dc5] #[.slice none 0 0, .slice none 0 0, .slice none 0 0, .slice none 0 0] 26 32 26)
  clear hp hd hk
  go_enter Tryz.func15, Tryz.ntmps15
  go_wp2_with fail
  have HT := HT.out
  refine wp_region_last (S := (fun W => (∀ o, W.cell? ⟨w.heap.size, o, none⟩ = (#[.slice pa0 l.length pc0, .slice pa1 g.length pc1, .slice pa2 h.length pc2, .slice pa3 qs.length pc3] : Array Value)[o]?) ∧ (∀ o, W.cell? ⟨w.heap.size + 1, o, none⟩ = (#[.slice da0 d.more.length dc0, .slice da1 d.gone.length dc1, .slice da2 d.grow.length dc2, .slice da3 d.ungrow.length dc3, .slice da4 d.shrink.length dc4, .slice da5 d.unshrink.length dc5] : Array Value)[o]?))) 10 (by kernel_rfl) ⟨HT.drew.a.1, HT.drew.b.1⟩ (fun hHeld => ?_)
  have HT := HT.drew
  (refine last_yes (v := ?_) 0 rfl (by kernel_rfl) (by kernel_rfl) (by kernel_rfl) (by kernel_rfl) (by kernel_rfl) (fun _ _ _ h => h) (by rfl) (by assumption) ?_ ?_; rotate_left; focus ((intro w hSw); (try dsimp only at hSw); go_simp; (try with_reducible rfl)); (try simp only [Act.put, List.setIfInBounds_toArray, List.set_cons_zero, List.set_cons_succ])); (refine last_yes (v := ?_) 1 rfl (by kernel_rfl) (by kernel_rfl) (by kernel_rfl) (by kernel_rfl) (by kernel_rfl) (fun _ _ _ h => h) (by rfl) (by assumption) ?_ ?_; rotate_left; focus ((intro w hSw); (try dsimp only at hSw); go_simp; (try with_reducible rfl)); (try simp only [Act.put, List.setIfInBounds_toArray, List.set_cons_zero, List.set_cons_succ])); (refine last_yes (v := ?_) 2 rfl (by kernel_rfl) (by kernel_rfl) (by kernel_rfl) (by kernel_rfl) (by kernel_rfl) (fun _ _ _ h => h) (by rfl) (by assumption) ?_ ?_; rotate_left; focus ((intro w hSw); (try dsimp only at hSw); go_simp; (try with_reducible rfl)); (try simp only [Act.put, List.setIfInBounds_toArray, List.set_cons_zero, List.set_cons_succ])); (refine last_yes (v := ?_) 3 rfl (by kernel_rfl) (by kernel_rfl) (by kernel_rfl) (by kernel_rfl) (by kernel_rfl) (fun _ _ _ h => h) (by rfl) (by assumption) ?_ ?_; rotate_left; focus ((intro w hSw); (try dsimp only at hSw); go_simp; (try with_reducible rfl)); (try simp only [Act.put, List.setIfInBounds_toArray, List.set_cons_zero, List.set_cons_succ])); (refine last_yes (v := ?_) 5 rfl (by kernel_rfl) (by kernel_rfl) (by kernel_rfl) (by kernel_rfl) (by kernel_rfl) (fun _ _ _ h => h) (by rfl) (by assumption) ?_ ?_; rotate_left; focus ((intro w hSw); (try dsimp only at hSw); go_simp; (try with_reducible rfl)); (try simp only [Act.put, List.setIfInBounds_toArray, List.set_cons_zero, List.set_cons_succ])); (refine last_yes (v := ?_) 6 rfl (by kernel_rfl) (by kernel_rfl) (by kernel_rfl) (by kernel_rfl) (by kernel_rfl) (fun _ _ _ h => h) (by rfl) (by assumption) ?_ ?_; rotate_left; focus ((intro w hSw); (try dsimp only at hSw); go_simp; (try with_reducible rfl)); (try simp only [Act.put, List.setIfInBounds_toArray, List.set_cons_zero, List.set_cons_succ]))
  have HT0 := HT
  (refine last_call 4 rfl (by kernel_rfl) (fun K hK => ?_); go_simp)
  go_at_call 27; refine (C0.out _ HT.low).mono ?_; rintro e wa0 ⟨x, base, rfl, hbs, hbs2, hown, hbq⟩; have HT := HT.later hbq; obtain ⟨ma, mc, hm⟩ := own_form hown; subst hm; clear C0
  (refine hK.out _ _ (⟨HT.a.1, HT.b.1⟩) (fun hHeld => ?_); clear hK K; (try simp only [Act.put, List.setIfInBounds_toArray, List.set_cons_zero, List.set_cons_succ]))
  refine last_call 7 rfl (by kernel_rfl) (fun K hK => ?_)
  refine step_row rfl _ _ 22 rfl base 52 infs _ 9 136 Tryz.underlying22 HIS.out hs0 hs1 hs2 (Nat.le_of_ble_eq_true rfl) rfl (Nat.le_of_ble_eq_true rfl) _ m0.length _ rfl hown _ d.more.length _ rfl (X0.out _ HT.low) (sts_one _) (by omega) hbs2 ?_
  intro a5 c5 wc0 hown5 hg5
  have hbq2 := below_own hbq hown hg5 hbq.size hbs
  have HT := HT0.later hbq2
  have HM : Hid (Sl wc0 9 (.slice a5 (m0.length + d.more.length) c5) (m0 ++ d.more).length ((m0 ++ d.more).flatMap St.cells)) := Lib.hid (by rw [List.length_append, List.flatMap_append]; exact Sl.of_own hown5)
  clear hown hown5 hg5 hbq hbq2 HT0
  (refine hK.out _ _ (⟨HT.a.1, HT.b.1⟩) (fun hHeld => ?_); clear hK K; (try simp only [Act.put, List.setIfInBounds_toArray, List.set_cons_zero, List.set_cons_succ]))
  (refine last_call 8 rfl (by kernel_rfl) (fun K hK => ?_); go_simp)
  go_at_call 34; refine (U0.out _ _ HM.out.a).mono ?_; rintro e wb0 ⟨x, rfl, hs, hbq⟩; have HT := HT.later hbq; have HY0 := Lib.hid hs; obtain ⟨ya0, yc0, hy⟩ := hs.form; subst hy; clear hs hbq U0 HM
  (refine hK.out _ _ (⟨HT.a.1, HT.b.1⟩) (fun hHeld => ?_); clear hK K; (try simp only [Act.put, List.setIfInBounds_toArray, List.set_cons_zero, List.set_cons_succ]))
  (refine last_yes (v := ?_) 9 rfl (by kernel_rfl) (by kernel_rfl) (by kernel_rfl) (by kernel_rfl) (by kernel_rfl) (fun _ _ _ h => h) (by rfl) (by assumption) ?_ ?_; rotate_left; focus ((intro w hSw); (try dsimp only at hSw); go_simp; (try with_reducible rfl)); (try simp only [Act.put, List.setIfInBounds_toArray, List.set_cons_zero, List.set_cons_succ]))
  have HBS : BlkS wb0 w.heap.size 4 := ⟨_, HT.a, rfl, by simp [isSl]⟩
  obtain ⟨ca, fa, za⟩ := HT.a
  (refine last_end 10 rfl (by kernel_rfl) (by kernel_rfl) (fun K hK => ?_); go_simp)
  clear ca fa za
  generalize hW : wb0.setCell ⟨w.heap.size, 0, none⟩ (.slice ya0 r0.length yc0) = W0
  have HT : ThreeAt w #[.slice ya0 r0.length yc0, .slice pa1 g.length pc1, .slice pa2 h.length pc2, .slice pa3 qs.length pc3] #[.slice da0 d.more.length dc0, .slice da1 d.gone.length dc1, .slice da2 d.grow.length dc2, .slice da3 d.ungrow.length dc3, .slice da4 d.shrink.length dc4, .slice da5 d.unshrink.length dc5] #[.slice none 0 0, .slice none 0 0, .slice none 0 0, .slice none 0 0] W0 := by rw [← hW]; simpa using HT.putA 0 (.slice ya0 r0.length yc0) (by simp)
  have HY0 := Lib.hid (show Sl W0 9 (.slice ya0 r0.length yc0) r0.length (r0.flatMap St.cells) from by rw [← hW]; exact HY0.out.set HBS (st_noSl _))
  clear hW HBS
  refine hK.out _ _ ?_
  clear hK K
  go_wp2_with fail
  refine wp_region_last (S := (fun W => (∀ o, W.cell? ⟨w.heap.size, o, none⟩ = (#[.slice ya0 r0.length yc0, .slice pa1 g.length pc1, .slice pa2 h.length pc2, .slice pa3 qs.length pc3] : Array Value)[o]?) ∧ (∀ o, W.cell? ⟨w.heap.size + 1, o, none⟩ = (#[.slice da0 d.more.length dc0, .slice da1 d.gone.length dc1, .slice da2 d.grow.length dc2, .slice da3 d.ungrow.length dc3, .slice da4 d.shrink.length dc4, .slice da5 d.unshrink.length dc5] : Array Value)[o]?))) 10 (by kernel_rfl) ⟨HT.drew.a.1, HT.drew.b.1⟩ (fun hHeld => ?_)
  have HT := HT.drew
  have HY0 := Lib.hid (HY0.out.below (below_drew (Below.refl _ _)))
  (refine last_yes (v := ?_) 0 rfl (by kernel_rfl) (by kernel_rfl) (by kernel_rfl) (by kernel_rfl) (by kernel_rfl) (fun _ _ _ h => h) (by rfl) (by assumption) ?_ ?_; rotate_left; focus ((intro w hSw); (try dsimp only at hSw); go_simp; (try with_reducible rfl)); (try simp only [Act.put, List.setIfInBounds_toArray, List.set_cons_zero, List.set_cons_succ])); (refine last_yes (v := ?_) 1 rfl (by kernel_rfl) (by kernel_rfl) (by kernel_rfl) (by kernel_rfl) (by kernel_rfl) (fun _ _ _ h => h) (by rfl) (by assumption) ?_ ?_; rotate_left; focus ((intro w hSw); (try dsimp only at hSw); go_simp; (try with_reducible rfl)); (try simp only [Act.put, List.setIfInBounds_toArray, List.set_cons_zero, List.set_cons_succ])); (refine last_yes (v := ?_) 2 rfl (by kernel_rfl) (by kernel_rfl) (by kernel_rfl) (by kernel_rfl) (by kernel_rfl) (fun _ _ _ h => h) (by rfl) (by assumption) ?_ ?_; rotate_left; focus ((intro w hSw); (try dsimp only at hSw); go_simp; (try with_reducible rfl)); (try simp only [Act.put, List.setIfInBounds_toArray, List.set_cons_zero, List.set_cons_succ])); (refine last_yes (v := ?_) 3 rfl (by kernel_rfl) (by kernel_rfl) (by kernel_rfl) (by kernel_rfl) (by kernel_rfl) (fun _ _ _ h => h) (by rfl) (by assumption) ?_ ?_; rotate_left; focus ((intro w hSw); (try dsimp only at hSw); go_simp; (try with_reducible rfl)); (try simp only [Act.put, List.setIfInBounds_toArray, List.set_cons_zero, List.set_cons_succ])); (refine last_yes (v := ?_) 5 rfl (by kernel_rfl) (by kernel_rfl) (by kernel_rfl) (by kernel_rfl) (by kernel_rfl) (fun _ _ _ h => h) (by rfl) (by assumption) ?_ ?_; rotate_left; focus ((intro w hSw); (try dsimp only at hSw); go_simp; (try with_reducible rfl)); (try simp only [Act.put, List.setIfInBounds_toArray, List.set_cons_zero, List.set_cons_succ])); (refine last_yes (v := ?_) 6 rfl (by kernel_rfl) (by kernel_rfl) (by kernel_rfl) (by kernel_rfl) (by kernel_rfl) (fun _ _ _ h => h) (by rfl) (by assumption) ?_ ?_; rotate_left; focus ((intro w hSw); (try dsimp only at hSw); go_simp; (try with_reducible rfl)); (try simp only [Act.put, List.setIfInBounds_toArray, List.set_cons_zero, List.set_cons_succ]))
  have HT0 := HT
  (refine last_call 4 rfl (by kernel_rfl) (fun K hK => ?_); go_simp)
  go_at_call 28; refine (C1.out _ HT.low).mono ?_; rintro e wa1 ⟨x, base, rfl, hbs, hbs2, hown, hbq⟩; have HT := HT.later hbq; obtain ⟨ma, mc, hm⟩ := own_form hown; subst hm; clear C1
  (refine hK.out _ _ (⟨HT.a.1, HT.b.1⟩) (fun hHeld => ?_); clear hK K; (try simp only [Act.put, List.setIfInBounds_toArray, List.set_cons_zero, List.set_cons_succ]))
  refine last_call 7 rfl (by kernel_rfl) (fun K hK => ?_)
  refine step_row rfl _ _ 23 rfl base 50 infr _ 2 32 Tryz.underlying23 HIR.out hr0 hr1 hr2 (Nat.le_of_ble_eq_true rfl) rfl (Nat.le_of_ble_eq_true rfl) _ m1.length _ rfl hown _ d.grow.length _ rfl (X1.out _ HT.low) (rls_one _) (by omega) hbs2 ?_
  intro a5 c5 wc1 hown5 hg5
  have hbq2 := below_own hbq hown hg5 hbq.size hbs
  have HT := HT0.later hbq2
  have HY0 := Lib.hid (HY0.out.below hbq2)
  have HM : Hid (Sl wc1 2 (.slice a5 (m1.length + d.grow.length) c5) (m1 ++ d.grow).length ((m1 ++ d.grow).flatMap Rl.cells)) := Lib.hid (by rw [List.length_append, List.flatMap_append]; exact Sl.of_own hown5)
  clear hown hown5 hg5 hbq hbq2 HT0
  (refine hK.out _ _ (⟨HT.a.1, HT.b.1⟩) (fun hHeld => ?_); clear hK K; (try simp only [Act.put, List.setIfInBounds_toArray, List.set_cons_zero, List.set_cons_succ]))
  (refine last_call 8 rfl (by kernel_rfl) (fun K hK => ?_); go_simp)
  go_at_call 35; refine (U1.out _ _ HM.out.a).mono ?_; rintro e wb1 ⟨x, rfl, hs, hbq⟩; have HT := HT.later hbq; have HY0 := Lib.hid (HY0.out.below hbq); have HY1 := Lib.hid hs; obtain ⟨ya1, yc1, hy⟩ := hs.form; subst hy; clear hs hbq U1 HM
  (refine hK.out _ _ (⟨HT.a.1, HT.b.1⟩) (fun hHeld => ?_); clear hK K; (try simp only [Act.put, List.setIfInBounds_toArray, List.set_cons_zero, List.set_cons_succ]))
  (refine last_yes (v := ?_) 9 rfl (by kernel_rfl) (by kernel_rfl) (by kernel_rfl) (by kernel_rfl) (by kernel_rfl) (fun _ _ _ h => h) (by rfl) (by assumption) ?_ ?_; rotate_left; focus ((intro w hSw); (try dsimp only at hSw); go_simp; (try with_reducible rfl)); (try simp only [Act.put, List.setIfInBounds_toArray, List.set_cons_zero, List.set_cons_succ]))
  have HBS : BlkS wb1 w.heap.size 4 := ⟨_, HT.a, rfl, by simp [isSl]⟩
  obtain ⟨ca, fa, za⟩ := HT.a
  (refine last_end 10 rfl (by kernel_rfl) (by kernel_rfl) (fun K hK => ?_); go_simp)
  clear ca fa za
  generalize hW : wb1.setCell ⟨w.heap.size, 1, none⟩ (.slice ya1 r1.length yc1) = W1
  have HT : ThreeAt w #[.slice ya0 r0.length yc0, .slice ya1 r1.length yc1, .slice pa2 h.length pc2, .slice pa3 qs.length pc3] #[.slice da0 d.more.length dc0, .slice da1 d.gone.length dc1, .slice da2 d.grow.length dc2, .slice da3 d.ungrow.length dc3, .slice da4 d.shrink.length dc4, .slice da5 d.unshrink.length dc5] #[.slice none 0 0, .slice none 0 0, .slice none 0 0, .slice none 0 0] W1 := by rw [← hW]; simpa using HT.putA 1 (.slice ya1 r1.length yc1) (by simp)
  have HY0 := Lib.hid (show Sl W1 9 (.slice ya0 r0.length yc0) r0.length (r0.flatMap St.cells) from by rw [← hW]; exact HY0.out.set HBS (st_noSl _))
  have HY1 := Lib.hid (show Sl W1 2 (.slice ya1 r1.length yc1) r1.length (r1.flatMap Rl.cells) from by rw [← hW]; exact HY1.out.set HBS (rl_noSl _))
  clear hW HBS
  refine hK.out _ _ ?_
  clear hK K
  go_wp2_with fail
  refine wp_region_last (S := (fun W => (∀ o, W.cell? ⟨w.heap.size, o, none⟩ = (#[.slice ya0 r0.length yc0, .slice ya1 r1.length yc1, .slice pa2 h.length pc2, .slice pa3 qs.length pc3] : Array Value)[o]?) ∧ (∀ o, W.cell? ⟨w.heap.size + 1, o, none⟩ = (#[.slice da0 d.more.length dc0, .slice da1 d.gone.length dc1, .slice da2 d.grow.length dc2, .slice da3 d.ungrow.length dc3, .slice da4 d.shrink.length dc4, .slice da5 d.unshrink.length dc5] : Array Value)[o]?))) 10 (by kernel_rfl) ⟨HT.drew.a.1, HT.drew.b.1⟩ (fun hHeld => ?_)
  have HT := HT.drew
  have HY0 := Lib.hid (HY0.out.below (below_drew (Below.refl _ _)))
  have HY1 := Lib.hid (HY1.out.below (below_drew (Below.refl _ _)))
  (refine last_yes (v := ?_) 0 rfl (by kernel_rfl) (by kernel_rfl) (by kernel_rfl) (by kernel_rfl) (by kernel_rfl) (fun _ _ _ h => h) (by rfl) (by assumption) ?_ ?_; rotate_left; focus ((intro w hSw); (try dsimp only at hSw); go_simp; (try with_reducible rfl)); (try simp only [Act.put, List.setIfInBounds_toArray, List.set_cons_zero, List.set_cons_succ])); (refine last_yes (v := ?_) 1 rfl (by kernel_rfl) (by kernel_rfl) (by kernel_rfl) (by kernel_rfl) (by kernel_rfl) (fun _ _ _ h => h) (by rfl) (by assumption) ?_ ?_; rotate_left; focus ((intro w hSw); (try dsimp only at hSw); go_simp; (try with_reducible rfl)); (try simp only [Act.put, List.setIfInBounds_toArray, List.set_cons_zero, List.set_cons_succ])); (refine last_yes (v := ?_) 2 rfl (by kernel_rfl) (by kernel_rfl) (by kernel_rfl) (by kernel_rfl) (by kernel_rfl) (fun _ _ _ h => h) (by rfl) (by assumption) ?_ ?_; rotate_left; focus ((intro w hSw); (try dsimp only at hSw); go_simp; (try with_reducible rfl)); (try simp only [Act.put, List.setIfInBounds_toArray, List.set_cons_zero, List.set_cons_succ])); (refine last_yes (v := ?_) 3 rfl (by kernel_rfl) (by kernel_rfl) (by kernel_rfl) (by kernel_rfl) (by kernel_rfl) (fun _ _ _ h => h) (by rfl) (by assumption) ?_ ?_; rotate_left; focus ((intro w hSw); (try dsimp only at hSw); go_simp; (try with_reducible rfl)); (try simp only [Act.put, List.setIfInBounds_toArray, List.set_cons_zero, List.set_cons_succ])); (refine last_yes (v := ?_) 5 rfl (by kernel_rfl) (by kernel_rfl) (by kernel_rfl) (by kernel_rfl) (by kernel_rfl) (fun _ _ _ h => h) (by rfl) (by assumption) ?_ ?_; rotate_left; focus ((intro w hSw); (try dsimp only at hSw); go_simp; (try with_reducible rfl)); (try simp only [Act.put, List.setIfInBounds_toArray, List.set_cons_zero, List.set_cons_succ])); (refine last_yes (v := ?_) 6 rfl (by kernel_rfl) (by kernel_rfl) (by kernel_rfl) (by kernel_rfl) (by kernel_rfl) (fun _ _ _ h => h) (by rfl) (by assumption) ?_ ?_; rotate_left; focus ((intro w hSw); (try dsimp only at hSw); go_simp; (try with_reducible rfl)); (try simp only [Act.put, List.setIfInBounds_toArray, List.set_cons_zero, List.set_cons_succ]))
  have HT0 := HT
  (refine last_call 4 rfl (by kernel_rfl) (fun K hK => ?_); go_simp)
  go_at_call 28; refine (C2.out _ HT.low).mono ?_; rintro e wa2 ⟨x, base, rfl, hbs, hbs2, hown, hbq⟩; have HT := HT.later hbq; obtain ⟨ma, mc, hm⟩ := own_form hown; subst hm; clear C2
  (refine hK.out _ _ (⟨HT.a.1, HT.b.1⟩) (fun hHeld => ?_); clear hK K; (try simp only [Act.put, List.setIfInBounds_toArray, List.set_cons_zero, List.set_cons_succ]))
  refine last_call 7 rfl (by kernel_rfl) (fun K hK => ?_)
  refine step_row rfl _ _ 23 rfl base 50 infr _ 2 32 Tryz.underlying23 HIR.out hr0 hr1 hr2 (Nat.le_of_ble_eq_true rfl) rfl (Nat.le_of_ble_eq_true rfl) _ m2.length _ rfl hown _ d.shrink.length _ rfl (X2.out _ HT.low) (rls_one _) (by omega) hbs2 ?_
  intro a5 c5 wc2 hown5 hg5
  have hbq2 := below_own hbq hown hg5 hbq.size hbs
  have HT := HT0.later hbq2
  have HY0 := Lib.hid (HY0.out.below hbq2)
  have HY1 := Lib.hid (HY1.out.below hbq2)
  have HM : Hid (Sl wc2 2 (.slice a5 (m2.length + d.shrink.length) c5) (m2 ++ d.shrink).length ((m2 ++ d.shrink).flatMap Rl.cells)) := Lib.hid (by rw [List.length_append, List.flatMap_append]; exact Sl.of_own hown5)
  clear hown hown5 hg5 hbq hbq2 HT0
  (refine hK.out _ _ (⟨HT.a.1, HT.b.1⟩) (fun hHeld => ?_); clear hK K; (try simp only [Act.put, List.setIfInBounds_toArray, List.set_cons_zero, List.set_cons_succ]))
  (refine last_call 8 rfl (by kernel_rfl) (fun K hK => ?_); go_simp)
  go_at_call 35; refine (U2.out _ _ HM.out.a).mono ?_; rintro e wb2 ⟨x, rfl, hs, hbq⟩; have HT := HT.later hbq; have HY0 := Lib.hid (HY0.out.below hbq); have HY1 := Lib.hid (HY1.out.below hbq); have HY2 := Lib.hid hs; obtain ⟨ya2, yc2, hy⟩ := hs.form; subst hy; clear hs hbq U2 HM
  (refine hK.out _ _ (⟨HT.a.1, HT.b.1⟩) (fun hHeld => ?_); clear hK K; (try simp only [Act.put, List.setIfInBounds_toArray, List.set_cons_zero, List.set_cons_succ]))
  (refine last_yes (v := ?_) 9 rfl (by kernel_rfl) (by kernel_rfl) (by kernel_rfl) (by kernel_rfl) (by kernel_rfl) (fun _ _ _ h => h) (by rfl) (by assumption) ?_ ?_; rotate_left; focus ((intro w hSw); (try dsimp only at hSw); go_simp; (try with_reducible rfl)); (try simp only [Act.put, List.setIfInBounds_toArray, List.set_cons_zero, List.set_cons_succ]))
  have HBS : BlkS wb2 w.heap.size 4 := ⟨_, HT.a, rfl, by simp [isSl]⟩
  obtain ⟨ca, fa, za⟩ := HT.a
  (refine last_end 10 rfl (by kernel_rfl) (by kernel_rfl) (fun K hK => ?_); go_simp)
  clear ca fa za
  generalize hW : wb2.setCell ⟨w.heap.size, 2, none⟩ (.slice ya2 r2.length yc2) = W2
  have HT : ThreeAt w #[.slice ya0 r0.length yc0, .slice ya1 r1.length yc1, .slice ya2 r2.length yc2, .slice pa3 qs.length pc3] #[.slice da0 d.more.length dc0, .slice da1 d.gone.length dc1, .slice da2 d.grow.length dc2, .slice da3 d.ungrow.length dc3, .slice da4 d.shrink.length dc4, .slice da5 d.unshrink.length dc5] #[.slice none 0 0, .slice none 0 0, .slice none 0 0, .slice none 0 0] W2 := by rw [← hW]; simpa using HT.putA 2 (.slice ya2 r2.length yc2) (by simp)
  have HY0 := Lib.hid (show Sl W2 9 (.slice ya0 r0.length yc0) r0.length (r0.flatMap St.cells) from by rw [← hW]; exact HY0.out.set HBS (st_noSl _))
  have HY1 := Lib.hid (show Sl W2 2 (.slice ya1 r1.length yc1) r1.length (r1.flatMap Rl.cells) from by rw [← hW]; exact HY1.out.set HBS (rl_noSl _))
  have HY2 := Lib.hid (show Sl W2 2 (.slice ya2 r2.length yc2) r2.length (r2.flatMap Rl.cells) from by rw [← hW]; exact HY2.out.set HBS (rl_noSl _))
  clear hW HBS
  refine hK.out _ _ ?_
  clear hK K
  have HC : Blk W2 (w.heap.size + 1 + 1) #[.slice none 0 0, .slice none 0 0, .slice none 0 0, .slice none 0 0] := HT.c
  have HBS : BlkS W2 (w.heap.size + 1 + 1) 4 := ⟨_, HC, rfl, by simp [isSl]⟩
  have HL := HT.low
  obtain ⟨⟨ca, fa, za⟩, _, ⟨cc, fc, zc⟩, _⟩ := HT
  go_wp2
  clear ca fa za cc fc zc
  generalize hW : ((((W2.setCell ⟨w.heap.size + 1 + 1, 0, none⟩ (.slice ya0 r0.length yc0)).setCell ⟨w.heap.size + 1 + 1, 1, none⟩ (.slice ya1 r1.length yc1)).setCell ⟨w.heap.size + 1 + 1, 2, none⟩ (.slice ya2 r2.length yc2)).setCell ⟨w.heap.size + 1 + 1, 3, none⟩ (.slice pa3 qs.length pc3)) = W
  have HW : Blk W (w.heap.size + 1 + 1) #[.slice ya0 r0.length yc0, .slice ya1 r1.length yc1, .slice ya2 r2.length yc2, .slice pa3 qs.length pc3] := by rw [← hW]; simpa using ((((HC.put (o := 0) (v := .slice ya0 r0.length yc0) (by simp)).put (o := 1) (v := .slice ya1 r1.length yc1) (by simp)).put (o := 2) (v := .slice ya2 r2.length yc2) (by simp)).put (o := 3) (v := .slice pa3 qs.length pc3) (by simp))
  have HR := Lib.hid (show Rows3 W _ _ _ r0 r1 r2 from by rw [← hW]; exact ⟨HY0.out.puts (st_noSl _) [.slice ya0 r0.length yc0, .slice ya1 r1.length yc1, .slice ya2 r2.length yc2, .slice pa3 qs.length pc3] 0 _ HBS (by simp) (by simp [isSl]), HY1.out.puts (rl_noSl _) [.slice ya0 r0.length yc0, .slice ya1 r1.length yc1, .slice ya2 r2.length yc2, .slice pa3 qs.length pc3] 0 _ HBS (by simp) (by simp [isSl]), HY2.out.puts (rl_noSl _) [.slice ya0 r0.length yc0, .slice ya1 r1.length yc1, .slice ya2 r2.length yc2, .slice pa3 qs.length pc3] 0 _ HBS (by simp) (by simp [isSl])⟩)
  have HLOW := Lib.hid (show Below w.heap.size w W from by rw [← hW]; exact below_puts (by omega) [.slice ya0 r0.length yc0, .slice ya1 r1.length yc1, .slice ya2 r2.length yc2, .slice pa3 qs.length pc3] 0 _ HL)
  clear hW HBS HC
  obtain ⟨cw, fw, zw⟩ := HW
  refine bodyPost_ret (v := pv _ _ _ _) (by simp [results, Tryz.results15, go_sem, cw]) rfl ⟨_, _, _, rfl, HR.out, HLOW.out⟩
end Go.Proofs.YtmpanikeeeoikaaGreat
