/- policy.sorted, Fits, Right (printed by gen_polright.py). -/
import Derived.Test.YtomhekohcadijaaGreatDoorPartRF18
import Derived.Test.YtomhekohcadijaaGreatDoorPartRF22
import Derived.Test.YtomhekohcadijaaGreatDoorPartRF24
import Derived.Test.YtomhekohcadijaaGreatDoorPartRF25
import Derived.Test.YtomhekohcadijaaGreatDoorPartRF14
namespace Go.Proofs.YtomhekohcadijaaGreatDoor
open Go.RowKit Go.Shelf

theorem pairwise_adj {α : Type} {c : α → α → Int} (ht : ∀ x y z, c x y < 0 → c y z < 0 → c x z < 0) {l : List α} (h : ∀ i (hi : i + 1 < l.length), c l[i] l[i + 1] < 0) : l.Pairwise (fun x y => c x y < 0) := by
  rw [List.pairwise_iff_getElem]
  have key : ∀ d i (hi : i + d + 1 < l.length), c l[i] l[i + d + 1] < 0 := by
    intro d
    induction d with
    | zero => intro i hi; exact h i hi
    | succ d ih => intro i hi; exact ht _ _ _ (ih i (by omega)) (h (i + d + 1) hi)
  intro i j hi hj hij
  obtain ⟨d, rfl⟩ : ∃ d, j = i + d + 1 := ⟨j - i - 1, by omega⟩
  exact key d i hj
def okR (l : List Rl) (i : Nat) : Bool := isRole (l.getD i noR) && (decide (i = 0) || decide (cmpR (l.getD (i - 1) noR) (l.getD i noR) < 0))
def sortedR (l : List Rl) : Bool := (List.range l.length).all (okR l)
theorem getD_in {α : Type} {l : List α} {i : Nat} {d : α} (h : i < l.length) : l.getD i d = l[i] := by rw [List.getD_eq_getElem?_getD, List.getElem?_eq_getElem h]; rfl
theorem sortedR_iff {l : List Rl} : sortedR l = true ↔ (∀ x ∈ l, isRole x = true) ∧ l = insAllR [] l := by
  unfold sortedR
  rw [List.all_eq_true]
  constructor
  · intro h
    have h' : ∀ i (hi : i < l.length), isRole l[i] = true ∧ (i = 0 ∨ cmpR (l.getD (i - 1) noR) l[i] < 0) := by
      intro i hi
      have := h i (List.mem_range.2 hi)
      unfold okR at this
      rw [getD_in hi, Bool.and_eq_true, Bool.or_eq_true, decide_eq_true_iff, decide_eq_true_iff] at this
      exact this
    refine ⟨fun x hx => ?_, ?_⟩
    · obtain ⟨i, hi, rfl⟩ := List.getElem_of_mem hx
      exact (h' i hi).1
    · refine (asc_ordR (pairwise_adj (c := cmpR) (fun _ _ _ => lt_trans'R) (fun i hi => ?_))).symm
      rcases (h' (i + 1) hi).2 with h0 | h0
      · omega
      · rw [show i + 1 - 1 = i by omega, getD_in (show i < l.length by omega)] at h0
        exact h0
  · rintro ⟨h1, h2⟩ i hi
    have hi' := List.mem_range.1 hi
    unfold okR
    rw [getD_in hi', h1 _ (List.getElem_mem hi'), Bool.true_and, Bool.or_eq_true, decide_eq_true_iff, decide_eq_true_iff]
    by_cases h0 : i = 0
    · exact .inl h0
    · refine .inr ?_
      have ha : AscR l := by rw [h2]; exact ord_ascR l
      rw [getD_in (show i - 1 < l.length by omega)]
      exact List.pairwise_iff_getElem.1 ha (i - 1) i (by omega) hi' (by omega)
def okS (l : List St) (i : Nat) : Bool := rightS (l.getD i noS) && (decide (i = 0) || decide (cmpSt (l.getD (i - 1) noS) (l.getD i noS) < 0))
def sortedS (l : List St) : Bool := (List.range l.length).all (okS l)
theorem lt_transSt {x y z : St} (h : cmpSt x y < 0) (h' : cmpSt y z < 0) : cmpSt x z < 0 := by
  have := wcmp_st.le x y z (by omega) (by omega)
  omega
theorem sortedS_iff {l : List St} : sortedS l = true ↔ (∀ x ∈ l, rightS x = true) ∧ l = insAll [] l := by
  unfold sortedS
  rw [List.all_eq_true]
  constructor
  · intro h
    have h' : ∀ i (hi : i < l.length), rightS l[i] = true ∧ (i = 0 ∨ cmpSt (l.getD (i - 1) noS) l[i] < 0) := by
      intro i hi
      have := h i (List.mem_range.2 hi)
      unfold okS at this
      rw [getD_in hi, Bool.and_eq_true, Bool.or_eq_true, decide_eq_true_iff, decide_eq_true_iff] at this
      exact this
    refine ⟨fun x hx => ?_, ?_⟩
    · obtain ⟨i, hi, rfl⟩ := List.getElem_of_mem hx
      exact (h' i hi).1
    · refine (asc_ord (pairwise_adj (c := cmpSt) (fun _ _ _ => lt_transSt) (fun i hi => ?_))).symm
      rcases (h' (i + 1) hi).2 with h0 | h0
      · omega
      · rw [show i + 1 - 1 = i by omega, getD_in (show i < l.length by omega)] at h0
        exact h0
  · rintro ⟨h1, h2⟩ i hi
    have hi' := List.mem_range.1 hi
    unfold okS
    rw [getD_in hi', h1 _ (List.getElem_mem hi'), Bool.true_and, Bool.or_eq_true, decide_eq_true_iff, decide_eq_true_iff]
    by_cases h0 : i = 0
    · exact .inl h0
    · refine .inr ?_
      have ha : Asc l := by rw [h2]; exact ord_asc l
      rw [getD_in (show i - 1 < l.length by omega)]
      exact List.pairwise_iff_getElem.1 ha (i - 1) i (by omega) hi' (by omega)
theorem all_range_no {f : Nat → Bool} {n k : Nat} (hk : k < n) (h : f k = false) : (List.range n).all f = false := by
  rw [List.all_eq_false]
  exact ⟨k, List.mem_range.2 hk, by rw [h]; exact Bool.false_ne_true⟩
theorem all_range_yes {f : Nat → Bool} {n k : Nat} (hk : ¬ k < n) (h : ∀ j, j < k → f j = true) : (List.range n).all f = true := by
  rw [List.all_eq_true]
  intro j hj
  exact h j (by have := List.mem_range.1 hj; omega)
structure RdAt2 (w0 w : World) (A : Array Value) (wx : World) : Prop where
  a : Blk wx w.heap.size A
  low : Below w.heap.size w wx
  low0 : Below w0.heap.size w0 wx
theorem RdAt2.later {w0 w wx w' : World} {A : Array Value} (h : RdAt2 w0 w A wx) (hb : Below wx.heap.size wx w') : RdAt2 w0 w A w' := ⟨h.a.below hb, h.low.trans (hb.mono h.low.size), h.low0.trans (hb.mono h.low0.size)⟩
theorem RdAt2.drew {w0 w wx : World} {A : Array Value} (h : RdAt2 w0 w A wx) : RdAt2 w0 w A wx.drew := h.later (below_drew (Below.refl _ _))
theorem syn_LessB (x y : Rl) (w : World) : Calls Tryz.prog 109 #[rv x, rv y] w fun e w' => e = .returned (.bool (decide (cmpR x y < 0))) ∧ Below w.heap.size w w' := syn_Less x y w
theorem syn_OrderB (s t : St) (w : World) : Calls Tryz.prog 107 #[sv s, sv t] w fun e w' => e = .returned (.int .i64 (cmpSt s t)) ∧ Below w.heap.size w w' := (syn_Order s t w).mono fun _ _ ⟨he, hg⟩ => ⟨he, hg.below⟩
set_option maxRecDepth 100000 in
set_option maxHeartbeats 4000000 in
theorem policy_sorted (v : Value) (l : List Rl) (w : World) (ha : SlA w 2 v l.length (l.flatMap Rl.cells)) (hle : ∀ x ∈ l, x.le 4294967) : Calls Tryz.prog 117 #[v] w fun e w' => e = .returned (.bool (sortedR l)) ∧ Below w.heap.size w w' := by
  have HA := Lib.hid ha
  have HLE := Lib.hid hle
  have hmax := ha.max
  obtain ⟨ao, ac, rfl⟩ := ha.form
  clear ha hle
  have RY := Lib.hid (fun k (hk : ¬ k < l.length) (h : ∀ j, j < k → okR l j = true) => show sortedR l = true from all_range_yes hk h)
  have RN := Lib.hid (fun k (hk : k < l.length) (h : okR l k = false) => show sortedR l = false from all_range_no hk h)
  generalize sortedR l = res at RY RN ⊢
  go_enter Tryz.func117, Tryz.ntmps117
  go_wp2_with fail
  go_loopw [7] (fun i wr => ∃ k : Nat, k ≤ l.length ∧ i = .int .i64 k ∧ Hid (Below w.heap.size w wr) ∧ Hid (∀ j, j < k → okR l j = true)) (fun i _ => l.length - (intOf i).toNat)
  case atStart => exact ⟨0, by omega, rfl, Lib.hid (Below.refl _ _), Lib.hid (fun j h => absurd h (by omega))⟩
  case round =>
    obtain ⟨k, hk, rfl, HB, HJ⟩ := hrel
    by_cases hlt : k < l.length
    · obtain ⟨b1, o1, c1, he1, hc1, hm1, hb1, hx1⟩ := HA.out.pos (by omega)
      simp only [Value.slice.injEq, true_and] at he1
      obtain ⟨rfl, rfl⟩ := he1
      have HXW := Lib.hid (fun j u hu => (HB.out.cell (p := ⟨b1, o1 + j, none⟩) hb1).trans (hx1 j u hu))
      obtain ⟨p0, p1⟩ := rl_cell (w := wr) HXW.out k hlt
      have hbr : b1 < wr.heap.size := Nat.lt_of_lt_of_le hb1 HB.out.size
      have IR := Lib.hid (fun W => syn_IsRole l[k] W (HLE.out _ (List.getElem_mem hlt)))
      have HOK := Lib.hid (show okR l k = (isRole l[k] && (decide (k = 0) || decide (cmpR (l.getD (k - 1) noR) l[k] < 0))) by unfold okR; rw [getD_in hlt])
      have HJS : Hid (okR l k = true → ∀ j, j < k + 1 → okR l j = true) := Lib.hid (fun h j hj => by
        by_cases e : j = k
        · rw [e]; exact h
        · exact HJ.out j (by omega))
      have HNO := Lib.hid (fun (h : okR l k = false) => RN.out k hlt h)
      have HT1 := Lib.hid (show RdAt2 wr wr #[.string l[k].o, .string l[k].n] (wr.alloc (.cells #[.string l[k].o, .string l[k].n] 78)) from ⟨Blk.new _ _ _, (Below.refl _ _).alloc (Nat.le_refl _) _, (Below.refl _ _).alloc (Nat.le_refl _) _⟩)
      clear hx1
      generalize isRole l[k] = ri at IR HOK
      by_cases hk0 : k = 0
      · have dk : decide (0 < k) = false := by (rw [decide_eq_false_iff_not]; omega)
        rw [decide_eq_true hk0, Bool.true_or, Bool.and_true] at HOK
        clear hk0
        generalize l[k] = x at *
        obtain ⟨x1, x2⟩ := x
        cases ri with
        | false =>
          have R := Lib.hid (HNO.out HOK.out)
          go_wp2_with fail
          refine wp_region_held_drew (S := (fun W => ∀ o, W.cell? ⟨wr.heap.size, o, none⟩ = (#[.string x1, .string x2] : Array Value)[o]?)) (by kernel_rfl) HT1.out.drew.a.1 (fun hHeld => ?_)
          have HT := HT1.out.drew
          obtain ⟨wk, hwk⟩ : ∃ W, W = (wr.alloc (.cells #[.string x1, .string x2] 78)).drew := ⟨_, rfl⟩
          rw [← hwk] at HT hHeld ⊢
          clear hwk
          (refine hyes 0 ?_); (try simp only [Act.put, List.setIfInBounds_toArray, List.set])
          (refine held_call 1 rfl (by kernel_rfl) (fun K hK => ?_); go_simp)
          go_at_call 108; refine (IR.out _).mono ?_; rintro e wz1 ⟨rfl, hbq⟩
          have HT := HT.later hbq
          clear hbq
          (refine hK.out _ _ (HT.a.1) (fun hHeld => ?_); clear hK K; (try simp only [Act.put, List.setIfInBounds_toArray, List.set]))
          (refine hyes 2 ?_); (refine hyes 3 ?_); (try simp only [Act.put, List.setIfInBounds_toArray, List.set])
          (refine hno 4 ?_); (try simp only [Act.put, List.setIfInBounds_toArray, List.set])
          (refine hno 5 ?_); (try simp only [Act.put, List.setIfInBounds_toArray, List.set])
          (refine hno 6 ?_); (try simp only [Act.put, List.setIfInBounds_toArray, List.set])
          (refine hno 7 ?_); (refine hno 8 ?_); (refine hno 12 ?_); (try simp only [Act.put, List.setIfInBounds_toArray, List.set])
          (refine hno 9 ?_); (try simp only [Act.put, List.setIfInBounds_toArray, List.set])
          (refine hno 10 ?_); (try simp only [Act.put, List.setIfInBounds_toArray, List.set])
          (refine hno 11 ?_); (try simp only [Act.put, List.setIfInBounds_toArray, List.set])
          (refine hno 13 ?_); (try simp only [Act.put, List.setIfInBounds_toArray, List.set])
          (refine hno 14 ?_); (try simp only [Act.put, List.setIfInBounds_toArray, List.set])
          (refine hno 15 ?_); (try simp only [Act.put, List.setIfInBounds_toArray, List.set])
          (refine hyes 16 ?_); (try simp only [Act.put, List.setIfInBounds_toArray, List.set])
          refine wpAnyH_done (by kernel_rfl) ?_ _
          have HTr := Lib.hid HT
          clear HT
          go_wp2_with fail
          go_ret
          exact ⟨ret_b R.out.symm, HB.out.trans (HTr.out.low.mono HB.out.size)⟩
        | true =>
          have HS := Lib.hid (HJS.out HOK.out)
          go_wp2_with fail
          refine wp_region_held_drew (S := (fun W => ∀ o, W.cell? ⟨wr.heap.size, o, none⟩ = (#[.string x1, .string x2] : Array Value)[o]?)) (by kernel_rfl) HT1.out.drew.a.1 (fun hHeld => ?_)
          have HT := HT1.out.drew
          obtain ⟨wk, hwk⟩ : ∃ W, W = (wr.alloc (.cells #[.string x1, .string x2] 78)).drew := ⟨_, rfl⟩
          rw [← hwk] at HT hHeld ⊢
          clear hwk
          (refine hyes 0 ?_); (try simp only [Act.put, List.setIfInBounds_toArray, List.set])
          (refine held_call 1 rfl (by kernel_rfl) (fun K hK => ?_); go_simp)
          go_at_call 108; refine (IR.out _).mono ?_; rintro e wz1 ⟨rfl, hbq⟩
          have HT := HT.later hbq
          clear hbq
          (refine hK.out _ _ (HT.a.1) (fun hHeld => ?_); clear hK K; (try simp only [Act.put, List.setIfInBounds_toArray, List.set]))
          (refine hyes 2 ?_); (refine hyes 3 ?_); (refine hyes 4 ?_); (refine hyes 5 ?_); (refine hyes 6 ?_); (try simp only [Act.put, List.setIfInBounds_toArray, List.set])
          (refine hno 7 ?_); (refine hno 8 ?_); (refine hno 12 ?_); (try simp only [Act.put, List.setIfInBounds_toArray, List.set])
          (refine hno 9 ?_); (try simp only [Act.put, List.setIfInBounds_toArray, List.set])
          (refine hno 10 ?_); (try simp only [Act.put, List.setIfInBounds_toArray, List.set])
          (refine hno 11 ?_); (try simp only [Act.put, List.setIfInBounds_toArray, List.set])
          (refine hno 13 ?_); (try simp only [Act.put, List.setIfInBounds_toArray, List.set])
          (refine hno 14 ?_); (try simp only [Act.put, List.setIfInBounds_toArray, List.set])
          (refine hyes 15 ?_); (refine hyes 16 ?_); (try simp only [Act.put, List.setIfInBounds_toArray, List.set])
          refine wpAnyH_done (by kernel_rfl) ?_ _
          have HTr := Lib.hid HT
          clear HT
          go_wp2_with fail
          exact ⟨⟨k + 1, by omega, by go_num, Lib.hid (HB.out.trans (HTr.out.low.mono HB.out.size)), HS⟩, by simp [intOf]; omega⟩
      · obtain ⟨m, hm⟩ : ∃ m, k = m + 1 := ⟨k - 1, by omega⟩
        have dk : decide (0 < k) = true := by (rw [decide_eq_true_iff]; omega)
        have hw1 : IntKind.i64.wrap ((k : Int) - 1) = (m : Int) := by rw [show (k : Int) - 1 = (m : Int) by omega]; exact Go.IntWalk.i64_in _ (by omega)
        have hml : m < l.length := by omega
        have hmi : (0 : Int) ≤ (m : Int) := by omega
        obtain ⟨q0, q1⟩ := rl_cell (w := wr) HXW.out m hml
        rw [decide_eq_false hk0, Bool.false_or, show k - 1 = m by omega, getD_in hml] at HOK
        have LS := Lib.hid (fun W => syn_LessB l[m] l[k] W)
        generalize hcm : decide (cmpR l[m] l[k] < 0) = cm at *
        clear hcm hk0 hm
        generalize l[k] = x at *
        obtain ⟨x1, x2⟩ := x
        generalize l[m] = y at *
        obtain ⟨y1, y2⟩ := y
        cases ri with
        | false =>
          have R := Lib.hid (HNO.out (by rw [HOK.out]; rfl))
          go_wp2_with fail
          refine wp_region_held_drew (S := (fun W => ∀ o, W.cell? ⟨wr.heap.size, o, none⟩ = (#[.string x1, .string x2] : Array Value)[o]?)) (by kernel_rfl) HT1.out.drew.a.1 (fun hHeld => ?_)
          have HT := HT1.out.drew
          obtain ⟨wk, hwk⟩ : ∃ W, W = (wr.alloc (.cells #[.string x1, .string x2] 78)).drew := ⟨_, rfl⟩
          rw [← hwk] at HT hHeld ⊢
          clear hwk
          (refine hyes 0 ?_); (try simp only [Act.put, List.setIfInBounds_toArray, List.set])
          (refine held_call 1 rfl (by kernel_rfl) (fun K hK => ?_); go_simp)
          go_at_call 108; refine (IR.out _).mono ?_; rintro e wz1 ⟨rfl, hbq⟩
          have HT := HT.later hbq
          clear hbq
          (refine hK.out _ _ (HT.a.1) (fun hHeld => ?_); clear hK K; (try simp only [Act.put, List.setIfInBounds_toArray, List.set]))
          (refine hyes 2 ?_); (refine hyes 3 ?_); (try simp only [Act.put, List.setIfInBounds_toArray, List.set])
          (refine hno 4 ?_); (try simp only [Act.put, List.setIfInBounds_toArray, List.set])
          (refine hno 5 ?_); (try simp only [Act.put, List.setIfInBounds_toArray, List.set])
          (refine hno 6 ?_); (try simp only [Act.put, List.setIfInBounds_toArray, List.set])
          (refine hno 7 ?_); (refine hno 8 ?_); (refine hno 12 ?_); (try simp only [Act.put, List.setIfInBounds_toArray, List.set])
          (refine hno 9 ?_); (try simp only [Act.put, List.setIfInBounds_toArray, List.set])
          (refine hno 10 ?_); (try simp only [Act.put, List.setIfInBounds_toArray, List.set])
          (refine hno 11 ?_); (try simp only [Act.put, List.setIfInBounds_toArray, List.set])
          (refine hno 13 ?_); (try simp only [Act.put, List.setIfInBounds_toArray, List.set])
          (refine hno 14 ?_); (try simp only [Act.put, List.setIfInBounds_toArray, List.set])
          (refine hno 15 ?_); (try simp only [Act.put, List.setIfInBounds_toArray, List.set])
          (refine hyes 16 ?_); (try simp only [Act.put, List.setIfInBounds_toArray, List.set])
          refine wpAnyH_done (by kernel_rfl) ?_ _
          have HTr := Lib.hid HT
          clear HT
          go_wp2_with fail
          go_ret
          exact ⟨ret_b R.out.symm, HB.out.trans (HTr.out.low.mono HB.out.size)⟩
        | true =>
          cases cm with
          | false =>
            have R := Lib.hid (HNO.out (by rw [HOK.out]; rfl))
            go_wp2_with fail
            refine wp_region_held_drew (S := (fun W => (∀ o, W.cell? ⟨wr.heap.size, o, none⟩ = (#[.string x1, .string x2] : Array Value)[o]?) ∧ W.cell? ⟨b1, o1 + m * 2, none⟩ = some (.string y1) ∧ W.cell? ⟨b1, o1 + m * 2 + 1, none⟩ = some (.string y2))) (by kernel_rfl) ⟨HT1.out.drew.a.1, (HT1.out.drew.low0.cell (p := ⟨b1, o1 + m * 2, none⟩) hbr).trans q0, (HT1.out.drew.low0.cell (p := ⟨b1, o1 + m * 2 + 1, none⟩) hbr).trans q1⟩ (fun hHeld => ?_)
            have HT := HT1.out.drew
            obtain ⟨wk, hwk⟩ : ∃ W, W = (wr.alloc (.cells #[.string x1, .string x2] 78)).drew := ⟨_, rfl⟩
            rw [← hwk] at HT hHeld ⊢
            clear hwk
            (refine hyes 0 ?_); (try simp only [Act.put, List.setIfInBounds_toArray, List.set])
            (refine held_call 1 rfl (by kernel_rfl) (fun K hK => ?_); go_simp)
            go_at_call 108; refine (IR.out _).mono ?_; rintro e wz1 ⟨rfl, hbq⟩
            have HT := HT.later hbq
            clear hbq
            (refine hK.out _ _ (⟨HT.a.1, (HT.low0.cell (p := ⟨b1, o1 + m * 2, none⟩) hbr).trans q0, (HT.low0.cell (p := ⟨b1, o1 + m * 2 + 1, none⟩) hbr).trans q1⟩) (fun hHeld => ?_); clear hK K; (try simp only [Act.put, List.setIfInBounds_toArray, List.set]))
            (refine hyes 2 ?_); (refine hyes 3 ?_); (refine hyes 4 ?_); (refine hyes 5 ?_); (refine hyes 6 ?_); (refine hyes 7 ?_); (refine hyes 8 ?_); (refine hyes 9 ?_); (refine hyes 10 ?_); (refine hyes 11 ?_); (refine hyes 12 ?_); (try simp only [Act.put, List.setIfInBounds_toArray, List.set])
            (refine held_call 13 rfl (by kernel_rfl) (fun K hK => ?_); go_simp)
            go_at_call 109; refine (LS.out _).mono ?_; rintro e wz13 ⟨rfl, hbq⟩
            have HT := HT.later hbq
            clear hbq
            (refine hK.out _ _ (⟨HT.a.1, (HT.low0.cell (p := ⟨b1, o1 + m * 2, none⟩) hbr).trans q0, (HT.low0.cell (p := ⟨b1, o1 + m * 2 + 1, none⟩) hbr).trans q1⟩) (fun hHeld => ?_); clear hK K; (try simp only [Act.put, List.setIfInBounds_toArray, List.set]))
            (refine hyes 14 ?_); (refine hyes 15 ?_); (refine hyes 16 ?_); (try simp only [Act.put, List.setIfInBounds_toArray, List.set])
            refine wpAnyH_done (by kernel_rfl) ?_ _
            have HTr := Lib.hid HT
            clear HT
            go_wp2_with fail
            go_ret
            exact ⟨ret_b R.out.symm, HB.out.trans (HTr.out.low.mono HB.out.size)⟩
          | true =>
            have HS := Lib.hid (HJS.out (by rw [HOK.out]; rfl))
            go_wp2_with fail
            refine wp_region_held_drew (S := (fun W => (∀ o, W.cell? ⟨wr.heap.size, o, none⟩ = (#[.string x1, .string x2] : Array Value)[o]?) ∧ W.cell? ⟨b1, o1 + m * 2, none⟩ = some (.string y1) ∧ W.cell? ⟨b1, o1 + m * 2 + 1, none⟩ = some (.string y2))) (by kernel_rfl) ⟨HT1.out.drew.a.1, (HT1.out.drew.low0.cell (p := ⟨b1, o1 + m * 2, none⟩) hbr).trans q0, (HT1.out.drew.low0.cell (p := ⟨b1, o1 + m * 2 + 1, none⟩) hbr).trans q1⟩ (fun hHeld => ?_)
            have HT := HT1.out.drew
            obtain ⟨wk, hwk⟩ : ∃ W, W = (wr.alloc (.cells #[.string x1, .string x2] 78)).drew := ⟨_, rfl⟩
            rw [← hwk] at HT hHeld ⊢
            clear hwk
            (refine hyes 0 ?_); (try simp only [Act.put, List.setIfInBounds_toArray, List.set])
            (refine held_call 1 rfl (by kernel_rfl) (fun K hK => ?_); go_simp)
            go_at_call 108; refine (IR.out _).mono ?_; rintro e wz1 ⟨rfl, hbq⟩
            have HT := HT.later hbq
            clear hbq
            (refine hK.out _ _ (⟨HT.a.1, (HT.low0.cell (p := ⟨b1, o1 + m * 2, none⟩) hbr).trans q0, (HT.low0.cell (p := ⟨b1, o1 + m * 2 + 1, none⟩) hbr).trans q1⟩) (fun hHeld => ?_); clear hK K; (try simp only [Act.put, List.setIfInBounds_toArray, List.set]))
            (refine hyes 2 ?_); (refine hyes 3 ?_); (refine hyes 4 ?_); (refine hyes 5 ?_); (refine hyes 6 ?_); (refine hyes 7 ?_); (refine hyes 8 ?_); (refine hyes 9 ?_); (refine hyes 10 ?_); (refine hyes 11 ?_); (refine hyes 12 ?_); (try simp only [Act.put, List.setIfInBounds_toArray, List.set])
            (refine held_call 13 rfl (by kernel_rfl) (fun K hK => ?_); go_simp)
            go_at_call 109; refine (LS.out _).mono ?_; rintro e wz13 ⟨rfl, hbq⟩
            have HT := HT.later hbq
            clear hbq
            (refine hK.out _ _ (⟨HT.a.1, (HT.low0.cell (p := ⟨b1, o1 + m * 2, none⟩) hbr).trans q0, (HT.low0.cell (p := ⟨b1, o1 + m * 2 + 1, none⟩) hbr).trans q1⟩) (fun hHeld => ?_); clear hK K; (try simp only [Act.put, List.setIfInBounds_toArray, List.set]))
            (refine hyes 14 ?_); (refine hyes 15 ?_); (refine hyes 16 ?_); (try simp only [Act.put, List.setIfInBounds_toArray, List.set])
            refine wpAnyH_done (by kernel_rfl) ?_ _
            have HTr := Lib.hid HT
            clear HT
            go_wp2_with fail
            exact ⟨⟨k + 1, by omega, by go_num, Lib.hid (HB.out.trans (HTr.out.low.mono HB.out.size)), HS⟩, by simp [intOf]; omega⟩
    · have R := Lib.hid (RY.out k hlt HJ.out)
      go_wp2_with fail
      go_ret
      exact ⟨ret_b R.out.symm, HB.out⟩
theorem rightP_iff {l : List St} {g h : List Rl} {qs : List Qv} {F : Qv → List ByteArray} : RightP l g h qs F ↔ sortedS l = true ∧ sortedR g = true ∧ sortedR h = true ∧ qs.any (fun q => !rightQ q (F q)) = false ∧ fitsP l g h qs F = true := by
  unfold RightP
  rw [sortedS_iff, sortedR_iff, sortedR_iff, List.any_eq_false]
  constructor
  · rintro ⟨h1, h2, h3, h4, h5, h6, h7⟩
    exact ⟨⟨h1, h4⟩, ⟨fun x hx => h2 x (List.mem_append.2 (.inl hx)), h5⟩, ⟨fun x hx => h2 x (List.mem_append.2 (.inr hx)), h6⟩, fun q hq => by rw [h3 q hq]; exact Bool.false_ne_true, h7⟩
  · rintro ⟨⟨h1, h4⟩, ⟨h2, h5⟩, ⟨h2', h6⟩, h3, h7⟩
    refine ⟨h1, fun x hx => (List.mem_append.1 hx).elim (h2 x) (h2' x), fun q hq => ?_, h4, h5, h6, h7⟩
    have := h3 q hq
    cases hr : rightQ q (F q) with
    | true => rfl
    | false => rw [hr] at this; exact absurd rfl this
set_option maxRecDepth 100000 in
set_option maxHeartbeats 4000000 in
theorem policy_FitsL (v0 v1 v2 v3 : Value) (l : List St) (g h : List Rl) (qs : List Qv) (w : World) (hp : PolAt w v0 v1 v2 v3 l g h qs) (hl : l.length ≤ 80) (hg : g.length ≤ 40) (hh : h.length ≤ 40) (hq : qs.length ≤ 100) (F : Qv → List ByteArray) (hF : WhoF w qs F) :
    Calls Tryz.prog 99 #[pv v0 v1 v2 v3] w fun e w' => e = .returned (.bool (fitsP l g h qs F)) ∧ Below w.heap.size w w' := by
  have PR := Lib.hid (fun W (hb : Below w.heap.size w W) => policy_Prins v0 v1 v2 v3 l g h qs W (hp.below hb) (by omega) (by omega) (by omega) hq F (hF.below hb))
  have NA := Lib.hid (fun W (hb : Below w.heap.size w W) => policy_Names v0 v1 v2 v3 l g h qs W (hp.below hb) (by omega) (by omega) (by omega) hq)
  have RES := Lib.hid (show fitsP l g h qs F = (decide (qs.length ≤ 16) && (decide ((newB (allPrins l g h qs F)).length ≤ 16) && decide ((newB (allNames l g h qs)).length ≤ 12))) from rfl)
  generalize fitsP l g h qs F = res at RES ⊢
  generalize newB (allPrins l g h qs F) = PS at *
  generalize newB (allNames l g h qs) = NS at *
  obtain ⟨a0, c0, rfl⟩ := hp.rs.form
  obtain ⟨a1, c1, rfl⟩ := hp.rg.form
  obtain ⟨a2, c2, rfl⟩ := hp.rh.form
  obtain ⟨a3, c3, rfl⟩ := hp.rq.form
  have HT := Lib.hid (show OneAt w #[.slice a0 l.length c0, .slice a1 g.length c1, .slice a2 h.length c2, .slice a3 qs.length c3] (w.alloc (.cells #[.slice a0 l.length c0, .slice a1 g.length c1, .slice a2 h.length c2, .slice a3 qs.length c3] 26)) from ⟨Blk.new w _ _, (Below.refl _ _).alloc (Nat.le_refl _) _⟩)
  have d0 : decide ((l.length : Int) ≤ 80) = true := decide_eq_true (by omega)
  have d1 : decide ((g.length : Int) ≤ 40) = true := decide_eq_true (by omega)
  have d2 : decide ((h.length : Int) ≤ 40) = true := decide_eq_true (by omega)
  clear hp hF
  go_enter Tryz.func99, Tryz.ntmps99
  by_cases t3 : qs.length ≤ 16
  · have d3 : decide ((qs.length : Int) ≤ 16) = true := decide_eq_true (by omega)
    rw [decide_eq_true t3, Bool.true_and] at RES
    go_wp2_with fail
    refine (PR.out _ HT.out.low).mono ?_
    rintro e w1 ⟨vp, rfl, ho1, _, hb1⟩
    obtain ⟨pa, pc, rfl⟩ := own_form ho1
    have HT := Lib.hid (HT.out.later hb1)
    clear ho1 hb1 PR
    by_cases t6 : PS.length ≤ 16
    · have d6 : decide ((PS.length : Int) ≤ 16) = true := decide_eq_true (by omega)
      rw [decide_eq_true t6, Bool.true_and] at RES
      obtain ⟨ca, fa, za⟩ := HT.out.a
      go_wp2_with fail
      refine (NA.out _ HT.out.low).mono ?_
      rintro e w2 ⟨vn, rfl, ho2, _, hb2⟩
      obtain ⟨na, nc, rfl⟩ := own_form ho2
      have HT := Lib.hid (HT.out.later hb2)
      clear ho2 hb2 NA ca fa za
      by_cases t7 : NS.length ≤ 12
      · have d7 : decide ((NS.length : Int) ≤ 12) = true := decide_eq_true (by omega)
        have R := Lib.hid (show res = true by rw [RES.out, decide_eq_true t7])
        go_wp2_with fail
        go_ret
        exact ⟨ret_b R.out.symm, HT.out.low⟩
      · have d7 : decide ((NS.length : Int) ≤ 12) = false := decide_eq_false (by omega)
        have R := Lib.hid (show res = false by rw [RES.out, decide_eq_false t7])
        go_wp2_with fail
        go_ret
        exact ⟨ret_b R.out.symm, HT.out.low⟩
    · have d6 : decide ((PS.length : Int) ≤ 16) = false := decide_eq_false (by omega)
      have R := Lib.hid (show res = false by rw [RES.out, decide_eq_false t6]; rfl)
      go_wp2_with fail
      go_ret
      exact ⟨ret_b R.out.symm, HT.out.low⟩
  · have d3 : decide ((qs.length : Int) ≤ 16) = false := decide_eq_false (by omega)
    have R := Lib.hid (show res = false by rw [RES.out, decide_eq_false t3]; rfl)
    go_wp2_with fail
    go_ret
    exact ⟨ret_b R.out.symm, HT.out.low⟩
set_option maxHeartbeats 1000000 in
theorem policy_Right1 (q : Qv) (us : List ByteArray) (w : World) (hla : q.a.le 4294967) (hlb : q.b.le 4294967) (hu1 : SlA w 1 q.w us.length (strs us)) (hu3 : ∀ s ∈ us, s.size ≤ 9223372036854775807) : Calls Tryz.prog 115 #[qv q] w fun e w' => e = .returned (.bool (!rightQ q us)) ∧ Below w.heap.size w w' := by
  have QR := Lib.hid (fun W (hb : Below w.heap.size w W) => query_RightL q us W hla hlb (hu1.below hb) hu3)
  generalize rightQ q us = r at *
  obtain ⟨xk, ⟨x1, x2⟩, ⟨x3, x4⟩, wv⟩ := q
  obtain ⟨wo, wc, hwv⟩ := hu1.form
  dsimp only at hwv
  subst hwv
  have HB := Lib.hid ((Below.refl _ w).alloc (Nat.le_refl _) (.cells #[.int .i64 xk, .string x1, .string x2, .string x3, .string x4, .slice wo us.length wc] 83))
  clear hu1
  go_enter Tryz.func115, Tryz.ntmps115
  go_wp2_with fail
  refine (QR.out _ HB.out).mono ?_
  rintro e w1 ⟨rfl, hb1⟩
  have HB1 := Lib.hid (HB.out.trans (hb1.mono HB.out.size))
  clear hb1
  go_wp2
  go_ret
  exact ⟨rfl, HB1.out⟩
set_option maxRecDepth 100000 in
set_option maxHeartbeats 8000000 in
theorem policy_RightL (v0 v1 v2 v3 : Value) (l : List St) (g h : List Rl) (qs : List Qv) (w : World) (hp : PolAt w v0 v1 v2 v3 l g h qs) (hl : l.length ≤ 80) (hg : g.length ≤ 40) (hh : h.length ≤ 40) (hq : qs.length ≤ 100) (hl4 : allLe l 4294967) (hgh : ∀ x ∈ g ++ h, x.le 4294967) (hqr : ∀ q ∈ qs, q.a.le 4294967 ∧ q.b.le 4294967)
    (F : Qv → List ByteArray) (hF : WhoF w qs F) (hFs : ∀ q ∈ qs, ∀ s ∈ F q, s.size ≤ 9223372036854775807) :
    Calls Tryz.prog 65 #[pv v0 v1 v2 v3] w fun e w' => RightI l g h qs F e ∧ Below w.heap.size w w' := by
  have eg : ∀ args w, (callFunc 115 args).run Tryz.prog w = .ok (.enter 115 args) w := enters_of Tryz.func115 (by kernel_rfl) rfl
  have FI := Lib.hid (fun W (hb : Below w.heap.size w W) => policy_FitsL v0 v1 v2 v3 l g h qs W (hp.below hb) hl hg hh hq F (hF.below hb))
  have SG := Lib.hid (fun W (hb : Below w.heap.size w W) => policy_sorted v1 g W (hp.rg.below hb) (fun x hx => hgh x (List.mem_append.2 (.inl hx))))
  have SH := Lib.hid (fun W (hb : Below w.heap.size w W) => policy_sorted v2 h W (hp.rh.below hb) (fun x hx => hgh x (List.mem_append.2 (.inr hx))))
  have CF := Lib.hid (fun W (hb : Below w.heap.size w W) => q_ContainsFunc v3 qs W (hp.rq.below hb) 115 #[] (fun q => !rightQ q (F q)) eg (fun x V hx hV => by
    simpa using policy_Right1 x (F x) V (hqr x hx).1 (hqr x hx).2 ((hF x hx).1.below (hb.trans (hV.mono hb.size))) (hFs x hx)))
  have HL := Lib.hid hp.rs
  have HL4 := Lib.hid hl4
  have hmax := hp.rs.max
  have RY := Lib.hid (fun k (hk : ¬ k < l.length) (h : ∀ j, j < k → okS l j = true) => show sortedS l = true from all_range_yes hk h)
  have RN := Lib.hid (fun k (hk : k < l.length) (h : okS l k = false) => show sortedS l = false from all_range_no hk h)
  have HI := Lib.hid (rightP_iff (l := l) (g := g) (h := h) (qs := qs) (F := F))
  have IFF := Lib.hid (show ∀ b : Bool, (b = true ↔ RightP l g h qs F) → RightI l g h qs F (.returned (.bool b)) from fun b h => ⟨b, rfl, h⟩)
  have HN0 := Lib.hid (show ∀ (_ : sortedS l = false), RightI l g h qs F (.returned (.bool false)) from fun hf => IFF.out false ⟨(fun e => by cases e), fun hr => by have := (HI.out.1 hr).1; rw [hf] at this; cases this⟩)
  generalize sortedS l = s0 at *
  generalize sortedR g = s1 at *
  generalize sortedR h = s2 at *
  generalize qs.any (fun q => !rightQ q (F q)) = s3 at *
  generalize fitsP l g h qs F = s4 at *
  obtain ⟨a0, c0, rfl⟩ := hp.rs.form
  obtain ⟨a1, c1, rfl⟩ := hp.rg.form
  obtain ⟨a2, c2, rfl⟩ := hp.rh.form
  obtain ⟨a3, c3, rfl⟩ := hp.rq.form
  have HT := Lib.hid (show OneAt w #[.slice a0 l.length c0, .slice a1 g.length c1, .slice a2 h.length c2, .slice a3 qs.length c3] (w.alloc (.cells #[.slice a0 l.length c0, .slice a1 g.length c1, .slice a2 h.length c2, .slice a3 qs.length c3] 26)) from ⟨Blk.new w _ _, (Below.refl _ _).alloc (Nat.le_refl _) _⟩)
  clear hp hF eg hl4 hgh hqr hFs
  go_enter Tryz.func65, Tryz.ntmps65
  go_wp2_with fail
  go_loopw [9] (fun i wr => ∃ k : Nat, k ≤ l.length ∧ i = .int .i64 k ∧ Hid (OneAt w #[.slice a0 l.length c0, .slice a1 g.length c1, .slice a2 h.length c2, .slice a3 qs.length c3] wr) ∧ Hid (∀ j, j < k → okS l j = true)) (fun i _ => l.length - (intOf i).toNat)
  case atStart => exact ⟨0, by omega, rfl, HT, Lib.hid (fun j h => absurd h (by omega))⟩
  case round =>
    clear HT
    obtain ⟨k, hk, rfl, HT0, HJ⟩ := hrel
    by_cases hlt : k < l.length
    · obtain ⟨b1, o1, c1', he1, hc1, hm1, hb1, hx1⟩ := HL.out.pos (by omega)
      simp only [Value.slice.injEq, true_and] at he1
      obtain ⟨rfl, rfl⟩ := he1
      have HXW := Lib.hid (fun j u hu => (HT0.out.low.cell (p := ⟨b1, o1 + j, none⟩) hb1).trans (hx1 j u hu))
      have HXL := Lib.hid hx1
      obtain ⟨p0, p1, p2, p3, p4, p5, p6, p7, p8⟩ := st_cell (w := wr) HXW.out k hlt
      have hbr : b1 < wr.heap.size := Nat.lt_of_lt_of_le hb1 HT0.out.low.size
      have RI := Lib.hid (fun W => syn_Right l[k] W (HL4.out _ (List.getElem_mem hlt)))
      have HOK := Lib.hid (show okS l k = (rightS l[k] && (decide (k = 0) || decide (cmpSt (l.getD (k - 1) noS) l[k] < 0))) by unfold okS; rw [getD_in hlt])
      have HJS : Hid (okS l k = true → ∀ j, j < k + 1 → okS l j = true) := Lib.hid (fun h j hj => by
        by_cases e : j = k
        · rw [e]; exact h
        · exact HJ.out j (by omega))
      have HNO := Lib.hid (fun (h : okS l k = false) => HN0.out (RN.out k hlt h))
      clear hx1
      generalize rightS l[k] = ri at RI HOK
      by_cases hk0 : k = 0
      · have dk : decide (0 < k) = false := by (rw [decide_eq_false_iff_not]; omega)
        rw [decide_eq_true hk0, Bool.true_or, Bool.and_true] at HOK
        clear hk0
        generalize l[k] = x at *
        obtain ⟨xk, ⟨x1, x2⟩, xw, ⟨x3, x4⟩, ⟨x5, x6⟩, xv⟩ := x
        have hba : Below wr.heap.size wr (wr.alloc (.cells #[.int .i64 xk, .string x1, .string x2, .string xw, .string x3, .string x4, .string x5, .string x6, .string xv] 80)) := (Below.refl _ _).alloc (Nat.le_refl _) _
        have HT1 := Lib.hid (HT0.out.later hba)
        have HX1 := Lib.hid (Blk.new wr #[.int .i64 xk, .string x1, .string x2, .string xw, .string x3, .string x4, .string x5, .string x6, .string xv] 80)
        clear hba
        cases ri with
        | false =>
          have R := Lib.hid (HNO.out HOK.out)
          go_wp2_with fail
          refine wp_region_held_drew (S := (fun W => (∀ o, W.cell? ⟨w.heap.size, o, none⟩ = (#[.slice (some ⟨b1, o1, none⟩) l.length c0, .slice a1 g.length c1, .slice a2 h.length c2, .slice a3 qs.length c3] : Array Value)[o]?) ∧ (∀ o, W.cell? ⟨wr.heap.size, o, none⟩ = (#[.int .i64 xk, .string x1, .string x2, .string xw, .string x3, .string x4, .string x5, .string x6, .string xv] : Array Value)[o]?))) (by kernel_rfl) ⟨HT1.out.drew.a.1, (HX1.out.below (below_drew (Below.refl _ _))).1⟩ (fun hHeld => ?_)
          have HT := HT1.out.drew
          have HX := HX1.out.below (below_drew (Below.refl _ _))
          obtain ⟨wk, hwk⟩ : ∃ W, W = (wr.alloc (.cells #[.int .i64 xk, .string x1, .string x2, .string xw, .string x3, .string x4, .string x5, .string x6, .string xv] 80)).drew := ⟨_, rfl⟩
          rw [← hwk] at HT HX hHeld ⊢
          clear hwk
          (refine hyes 0 ?_); (try simp only [Act.put, List.setIfInBounds_toArray, List.set])
          (refine held_call 1 rfl (by kernel_rfl) (fun K hK => ?_); go_simp)
          go_at_call 114; refine (RI.out _).mono ?_; rintro e wz1 ⟨rfl, hbq⟩
          have HT := HT.later hbq
          have HX := HX.below hbq
          clear hbq
          (refine hK.out _ _ (⟨HT.a.1, HX.1⟩) (fun hHeld => ?_); clear hK K; (try simp only [Act.put, List.setIfInBounds_toArray, List.set]))
          (refine hyes 2 ?_); (refine hyes 3 ?_); (try simp only [Act.put, List.setIfInBounds_toArray, List.set])
          (refine hno 4 ?_); (try simp only [Act.put, List.setIfInBounds_toArray, List.set])
          (refine hno 5 ?_); (try simp only [Act.put, List.setIfInBounds_toArray, List.set])
          (refine hno 6 ?_); (try simp only [Act.put, List.setIfInBounds_toArray, List.set])
          (refine hno 7 ?_); (refine hno 9 ?_); (refine hno 13 ?_); (try simp only [Act.put, List.setIfInBounds_toArray, List.set])
          (refine hno 8 ?_); (refine hno 10 ?_); (try simp only [Act.put, List.setIfInBounds_toArray, List.set])
          (refine hno 11 ?_); (try simp only [Act.put, List.setIfInBounds_toArray, List.set])
          (refine hno 12 ?_); (try simp only [Act.put, List.setIfInBounds_toArray, List.set])
          (refine hno 14 ?_); (try simp only [Act.put, List.setIfInBounds_toArray, List.set])
          (refine hno 15 ?_); (try simp only [Act.put, List.setIfInBounds_toArray, List.set])
          (refine hno 16 ?_); (try simp only [Act.put, List.setIfInBounds_toArray, List.set])
          (refine hyes 17 ?_); (try simp only [Act.put, List.setIfInBounds_toArray, List.set])
          refine wpAnyH_done (by kernel_rfl) ?_ _
          have HTr := Lib.hid HT
          clear HT HX
          go_wp2_with fail
          go_ret
          exact ⟨R.out, HTr.out.low⟩
        | true =>
          have HS := Lib.hid (HJS.out HOK.out)
          go_wp2_with fail
          refine wp_region_held_drew (S := (fun W => (∀ o, W.cell? ⟨w.heap.size, o, none⟩ = (#[.slice (some ⟨b1, o1, none⟩) l.length c0, .slice a1 g.length c1, .slice a2 h.length c2, .slice a3 qs.length c3] : Array Value)[o]?) ∧ (∀ o, W.cell? ⟨wr.heap.size, o, none⟩ = (#[.int .i64 xk, .string x1, .string x2, .string xw, .string x3, .string x4, .string x5, .string x6, .string xv] : Array Value)[o]?))) (by kernel_rfl) ⟨HT1.out.drew.a.1, (HX1.out.below (below_drew (Below.refl _ _))).1⟩ (fun hHeld => ?_)
          have HT := HT1.out.drew
          have HX := HX1.out.below (below_drew (Below.refl _ _))
          obtain ⟨wk, hwk⟩ : ∃ W, W = (wr.alloc (.cells #[.int .i64 xk, .string x1, .string x2, .string xw, .string x3, .string x4, .string x5, .string x6, .string xv] 80)).drew := ⟨_, rfl⟩
          rw [← hwk] at HT HX hHeld ⊢
          clear hwk
          (refine hyes 0 ?_); (try simp only [Act.put, List.setIfInBounds_toArray, List.set])
          (refine held_call 1 rfl (by kernel_rfl) (fun K hK => ?_); go_simp)
          go_at_call 114; refine (RI.out _).mono ?_; rintro e wz1 ⟨rfl, hbq⟩
          have HT := HT.later hbq
          have HX := HX.below hbq
          clear hbq
          (refine hK.out _ _ (⟨HT.a.1, HX.1⟩) (fun hHeld => ?_); clear hK K; (try simp only [Act.put, List.setIfInBounds_toArray, List.set]))
          (refine hyes 2 ?_); (refine hyes 3 ?_); (refine hyes 4 ?_); (refine hyes 5 ?_); (refine hyes 6 ?_); (try simp only [Act.put, List.setIfInBounds_toArray, List.set])
          (refine hno 7 ?_); (refine hno 9 ?_); (refine hno 13 ?_); (try simp only [Act.put, List.setIfInBounds_toArray, List.set])
          (refine hno 8 ?_); (refine hno 10 ?_); (try simp only [Act.put, List.setIfInBounds_toArray, List.set])
          (refine hno 11 ?_); (try simp only [Act.put, List.setIfInBounds_toArray, List.set])
          (refine hno 12 ?_); (try simp only [Act.put, List.setIfInBounds_toArray, List.set])
          (refine hno 14 ?_); (try simp only [Act.put, List.setIfInBounds_toArray, List.set])
          (refine hno 15 ?_); (try simp only [Act.put, List.setIfInBounds_toArray, List.set])
          (refine hyes 16 ?_); (refine hyes 17 ?_); (try simp only [Act.put, List.setIfInBounds_toArray, List.set])
          refine wpAnyH_done (by kernel_rfl) ?_ _
          have HTr := Lib.hid HT
          clear HT HX
          go_wp2_with fail
          exact ⟨⟨k + 1, by omega, by go_num, HTr, HS⟩, by simp [intOf]; omega⟩
      · obtain ⟨m, hm⟩ : ∃ m, k = m + 1 := ⟨k - 1, by omega⟩
        have dk : decide (0 < k) = true := by (rw [decide_eq_true_iff]; omega)
        have hw1 : IntKind.i64.wrap ((k : Int) - 1) = (m : Int) := by rw [show (k : Int) - 1 = (m : Int) by omega]; exact Go.IntWalk.i64_in _ (by omega)
        have hml : m < l.length := by omega
        have hmi : (0 : Int) ≤ (m : Int) := by omega
        obtain ⟨q0, q1, q2, q3, q4, q5, q6, q7, q8⟩ := st_cell (w := w) HXL.out m hml
        rw [decide_eq_false hk0, Bool.false_or, show k - 1 = m by omega, getD_in hml] at HOK
        have OR := Lib.hid (fun W => syn_OrderB l[m] l[k] W)
        generalize cmpSt l[m] l[k] = cm at *
        clear hk0 hm
        generalize l[k] = x at *
        obtain ⟨xk, ⟨x1, x2⟩, xw, ⟨x3, x4⟩, ⟨x5, x6⟩, xv⟩ := x
        generalize l[m] = y at *
        obtain ⟨yk, ⟨y1, y2⟩, yw, ⟨y3, y4⟩, ⟨y5, y6⟩, yv⟩ := y
        have hba : Below wr.heap.size wr (wr.alloc (.cells #[.int .i64 xk, .string x1, .string x2, .string xw, .string x3, .string x4, .string x5, .string x6, .string xv] 80)) := (Below.refl _ _).alloc (Nat.le_refl _) _
        have HT1 := Lib.hid (HT0.out.later hba)
        have HX1 := Lib.hid (Blk.new wr #[.int .i64 xk, .string x1, .string x2, .string xw, .string x3, .string x4, .string x5, .string x6, .string xv] 80)
        clear hba
        cases ri with
        | false =>
          have R := Lib.hid (HNO.out (by rw [HOK.out]; rfl))
          go_wp2_with fail
          refine wp_region_held_drew (S := (fun W => (∀ o, W.cell? ⟨w.heap.size, o, none⟩ = (#[.slice (some ⟨b1, o1, none⟩) l.length c0, .slice a1 g.length c1, .slice a2 h.length c2, .slice a3 qs.length c3] : Array Value)[o]?) ∧ (∀ o, W.cell? ⟨wr.heap.size, o, none⟩ = (#[.int .i64 xk, .string x1, .string x2, .string xw, .string x3, .string x4, .string x5, .string x6, .string xv] : Array Value)[o]?))) (by kernel_rfl) ⟨HT1.out.drew.a.1, (HX1.out.below (below_drew (Below.refl _ _))).1⟩ (fun hHeld => ?_)
          have HT := HT1.out.drew
          have HX := HX1.out.below (below_drew (Below.refl _ _))
          obtain ⟨wk, hwk⟩ : ∃ W, W = (wr.alloc (.cells #[.int .i64 xk, .string x1, .string x2, .string xw, .string x3, .string x4, .string x5, .string x6, .string xv] 80)).drew := ⟨_, rfl⟩
          rw [← hwk] at HT HX hHeld ⊢
          clear hwk
          (refine hyes 0 ?_); (try simp only [Act.put, List.setIfInBounds_toArray, List.set])
          (refine held_call 1 rfl (by kernel_rfl) (fun K hK => ?_); go_simp)
          go_at_call 114; refine (RI.out _).mono ?_; rintro e wz1 ⟨rfl, hbq⟩
          have HT := HT.later hbq
          have HX := HX.below hbq
          clear hbq
          (refine hK.out _ _ (⟨HT.a.1, HX.1⟩) (fun hHeld => ?_); clear hK K; (try simp only [Act.put, List.setIfInBounds_toArray, List.set]))
          (refine hyes 2 ?_); (refine hyes 3 ?_); (try simp only [Act.put, List.setIfInBounds_toArray, List.set])
          (refine hno 4 ?_); (try simp only [Act.put, List.setIfInBounds_toArray, List.set])
          (refine hno 5 ?_); (try simp only [Act.put, List.setIfInBounds_toArray, List.set])
          (refine hno 6 ?_); (try simp only [Act.put, List.setIfInBounds_toArray, List.set])
          (refine hno 7 ?_); (refine hno 9 ?_); (refine hno 13 ?_); (try simp only [Act.put, List.setIfInBounds_toArray, List.set])
          (refine hno 8 ?_); (refine hno 10 ?_); (try simp only [Act.put, List.setIfInBounds_toArray, List.set])
          (refine hno 11 ?_); (try simp only [Act.put, List.setIfInBounds_toArray, List.set])
          (refine hno 12 ?_); (try simp only [Act.put, List.setIfInBounds_toArray, List.set])
          (refine hno 14 ?_); (try simp only [Act.put, List.setIfInBounds_toArray, List.set])
          (refine hno 15 ?_); (try simp only [Act.put, List.setIfInBounds_toArray, List.set])
          (refine hno 16 ?_); (try simp only [Act.put, List.setIfInBounds_toArray, List.set])
          (refine hyes 17 ?_); (try simp only [Act.put, List.setIfInBounds_toArray, List.set])
          refine wpAnyH_done (by kernel_rfl) ?_ _
          have HTr := Lib.hid HT
          clear HT HX
          go_wp2_with fail
          go_ret
          exact ⟨R.out, HTr.out.low⟩
        | true =>
          by_cases hcm : cm < 0
          · have dcm : decide (0 ≤ cm) = false := decide_eq_false (by omega)
            have HS := Lib.hid (HJS.out (by rw [HOK.out, decide_eq_true hcm]; rfl))
            clear hcm
            go_wp2_with fail
            refine wp_region_held_drew (S := (fun W => (∀ o, W.cell? ⟨w.heap.size, o, none⟩ = (#[.slice (some ⟨b1, o1, none⟩) l.length c0, .slice a1 g.length c1, .slice a2 h.length c2, .slice a3 qs.length c3] : Array Value)[o]?) ∧ (∀ o, W.cell? ⟨wr.heap.size, o, none⟩ = (#[.int .i64 xk, .string x1, .string x2, .string xw, .string x3, .string x4, .string x5, .string x6, .string xv] : Array Value)[o]?) ∧ W.cell? ⟨b1, o1 + m * 9, none⟩ = some (.int .i64 yk) ∧ W.cell? ⟨b1, o1 + m * 9 + 1, none⟩ = some (.string y1) ∧ W.cell? ⟨b1, o1 + m * 9 + 2, none⟩ = some (.string y2) ∧ W.cell? ⟨b1, o1 + m * 9 + 3, none⟩ = some (.string yw) ∧ W.cell? ⟨b1, o1 + m * 9 + 4, none⟩ = some (.string y3) ∧ W.cell? ⟨b1, o1 + m * 9 + 5, none⟩ = some (.string y4) ∧ W.cell? ⟨b1, o1 + m * 9 + 6, none⟩ = some (.string y5) ∧ W.cell? ⟨b1, o1 + m * 9 + 7, none⟩ = some (.string y6) ∧ W.cell? ⟨b1, o1 + m * 9 + 8, none⟩ = some (.string yv))) (by kernel_rfl) ⟨HT1.out.drew.a.1, (HX1.out.below (below_drew (Below.refl _ _))).1, (HT1.out.drew.low.cell (p := ⟨b1, o1 + m * 9, none⟩) hb1).trans q0, (HT1.out.drew.low.cell (p := ⟨b1, o1 + m * 9 + 1, none⟩) hb1).trans q1, (HT1.out.drew.low.cell (p := ⟨b1, o1 + m * 9 + 2, none⟩) hb1).trans q2, (HT1.out.drew.low.cell (p := ⟨b1, o1 + m * 9 + 3, none⟩) hb1).trans q3, (HT1.out.drew.low.cell (p := ⟨b1, o1 + m * 9 + 4, none⟩) hb1).trans q4, (HT1.out.drew.low.cell (p := ⟨b1, o1 + m * 9 + 5, none⟩) hb1).trans q5, (HT1.out.drew.low.cell (p := ⟨b1, o1 + m * 9 + 6, none⟩) hb1).trans q6, (HT1.out.drew.low.cell (p := ⟨b1, o1 + m * 9 + 7, none⟩) hb1).trans q7, (HT1.out.drew.low.cell (p := ⟨b1, o1 + m * 9 + 8, none⟩) hb1).trans q8⟩ (fun hHeld => ?_)
            have HT := HT1.out.drew
            have HX := HX1.out.below (below_drew (Below.refl _ _))
            obtain ⟨wk, hwk⟩ : ∃ W, W = (wr.alloc (.cells #[.int .i64 xk, .string x1, .string x2, .string xw, .string x3, .string x4, .string x5, .string x6, .string xv] 80)).drew := ⟨_, rfl⟩
            rw [← hwk] at HT HX hHeld ⊢
            clear hwk
            (refine hyes 0 ?_); (try simp only [Act.put, List.setIfInBounds_toArray, List.set])
            (refine held_call 1 rfl (by kernel_rfl) (fun K hK => ?_); go_simp)
            go_at_call 114; refine (RI.out _).mono ?_; rintro e wz1 ⟨rfl, hbq⟩
            have HT := HT.later hbq
            have HX := HX.below hbq
            clear hbq
            (refine hK.out _ _ (⟨HT.a.1, HX.1, (HT.low.cell (p := ⟨b1, o1 + m * 9, none⟩) hb1).trans q0, (HT.low.cell (p := ⟨b1, o1 + m * 9 + 1, none⟩) hb1).trans q1, (HT.low.cell (p := ⟨b1, o1 + m * 9 + 2, none⟩) hb1).trans q2, (HT.low.cell (p := ⟨b1, o1 + m * 9 + 3, none⟩) hb1).trans q3, (HT.low.cell (p := ⟨b1, o1 + m * 9 + 4, none⟩) hb1).trans q4, (HT.low.cell (p := ⟨b1, o1 + m * 9 + 5, none⟩) hb1).trans q5, (HT.low.cell (p := ⟨b1, o1 + m * 9 + 6, none⟩) hb1).trans q6, (HT.low.cell (p := ⟨b1, o1 + m * 9 + 7, none⟩) hb1).trans q7, (HT.low.cell (p := ⟨b1, o1 + m * 9 + 8, none⟩) hb1).trans q8⟩) (fun hHeld => ?_); clear hK K; (try simp only [Act.put, List.setIfInBounds_toArray, List.set]))
            (refine hyes 2 ?_); (refine hyes 3 ?_); (refine hyes 4 ?_); (refine hyes 5 ?_); (refine hyes 6 ?_); (refine hyes 7 ?_); (refine hyes 8 ?_); (refine hyes 9 ?_); (refine hyes 10 ?_); (refine hyes 11 ?_); (refine hyes 12 ?_); (refine hyes 13 ?_); (try simp only [Act.put, List.setIfInBounds_toArray, List.set])
            (refine held_call 14 rfl (by kernel_rfl) (fun K hK => ?_); go_simp)
            go_at_call 107; refine (OR.out _).mono ?_; rintro e wz14 ⟨rfl, hbq⟩
            have HT := HT.later hbq
            have HX := HX.below hbq
            clear hbq
            (refine hK.out _ _ (⟨HT.a.1, HX.1, (HT.low.cell (p := ⟨b1, o1 + m * 9, none⟩) hb1).trans q0, (HT.low.cell (p := ⟨b1, o1 + m * 9 + 1, none⟩) hb1).trans q1, (HT.low.cell (p := ⟨b1, o1 + m * 9 + 2, none⟩) hb1).trans q2, (HT.low.cell (p := ⟨b1, o1 + m * 9 + 3, none⟩) hb1).trans q3, (HT.low.cell (p := ⟨b1, o1 + m * 9 + 4, none⟩) hb1).trans q4, (HT.low.cell (p := ⟨b1, o1 + m * 9 + 5, none⟩) hb1).trans q5, (HT.low.cell (p := ⟨b1, o1 + m * 9 + 6, none⟩) hb1).trans q6, (HT.low.cell (p := ⟨b1, o1 + m * 9 + 7, none⟩) hb1).trans q7, (HT.low.cell (p := ⟨b1, o1 + m * 9 + 8, none⟩) hb1).trans q8⟩) (fun hHeld => ?_); clear hK K; (try simp only [Act.put, List.setIfInBounds_toArray, List.set]))
            (refine hyes 15 ?_); (refine hyes 16 ?_); (refine hyes 17 ?_); (try simp only [Act.put, List.setIfInBounds_toArray, List.set])
            refine wpAnyH_done (by kernel_rfl) ?_ _
            have HTr := Lib.hid HT
            clear HT HX
            go_wp2_with fail
            exact ⟨⟨k + 1, by omega, by go_num, HTr, HS⟩, by simp [intOf]; omega⟩
          · have dcm : decide (0 ≤ cm) = true := decide_eq_true (by omega)
            have R := Lib.hid (HNO.out (by rw [HOK.out, decide_eq_false hcm]; rfl))
            clear hcm
            go_wp2_with fail
            refine wp_region_held_drew (S := (fun W => (∀ o, W.cell? ⟨w.heap.size, o, none⟩ = (#[.slice (some ⟨b1, o1, none⟩) l.length c0, .slice a1 g.length c1, .slice a2 h.length c2, .slice a3 qs.length c3] : Array Value)[o]?) ∧ (∀ o, W.cell? ⟨wr.heap.size, o, none⟩ = (#[.int .i64 xk, .string x1, .string x2, .string xw, .string x3, .string x4, .string x5, .string x6, .string xv] : Array Value)[o]?) ∧ W.cell? ⟨b1, o1 + m * 9, none⟩ = some (.int .i64 yk) ∧ W.cell? ⟨b1, o1 + m * 9 + 1, none⟩ = some (.string y1) ∧ W.cell? ⟨b1, o1 + m * 9 + 2, none⟩ = some (.string y2) ∧ W.cell? ⟨b1, o1 + m * 9 + 3, none⟩ = some (.string yw) ∧ W.cell? ⟨b1, o1 + m * 9 + 4, none⟩ = some (.string y3) ∧ W.cell? ⟨b1, o1 + m * 9 + 5, none⟩ = some (.string y4) ∧ W.cell? ⟨b1, o1 + m * 9 + 6, none⟩ = some (.string y5) ∧ W.cell? ⟨b1, o1 + m * 9 + 7, none⟩ = some (.string y6) ∧ W.cell? ⟨b1, o1 + m * 9 + 8, none⟩ = some (.string yv))) (by kernel_rfl) ⟨HT1.out.drew.a.1, (HX1.out.below (below_drew (Below.refl _ _))).1, (HT1.out.drew.low.cell (p := ⟨b1, o1 + m * 9, none⟩) hb1).trans q0, (HT1.out.drew.low.cell (p := ⟨b1, o1 + m * 9 + 1, none⟩) hb1).trans q1, (HT1.out.drew.low.cell (p := ⟨b1, o1 + m * 9 + 2, none⟩) hb1).trans q2, (HT1.out.drew.low.cell (p := ⟨b1, o1 + m * 9 + 3, none⟩) hb1).trans q3, (HT1.out.drew.low.cell (p := ⟨b1, o1 + m * 9 + 4, none⟩) hb1).trans q4, (HT1.out.drew.low.cell (p := ⟨b1, o1 + m * 9 + 5, none⟩) hb1).trans q5, (HT1.out.drew.low.cell (p := ⟨b1, o1 + m * 9 + 6, none⟩) hb1).trans q6, (HT1.out.drew.low.cell (p := ⟨b1, o1 + m * 9 + 7, none⟩) hb1).trans q7, (HT1.out.drew.low.cell (p := ⟨b1, o1 + m * 9 + 8, none⟩) hb1).trans q8⟩ (fun hHeld => ?_)
            have HT := HT1.out.drew
            have HX := HX1.out.below (below_drew (Below.refl _ _))
            obtain ⟨wk, hwk⟩ : ∃ W, W = (wr.alloc (.cells #[.int .i64 xk, .string x1, .string x2, .string xw, .string x3, .string x4, .string x5, .string x6, .string xv] 80)).drew := ⟨_, rfl⟩
            rw [← hwk] at HT HX hHeld ⊢
            clear hwk
            (refine hyes 0 ?_); (try simp only [Act.put, List.setIfInBounds_toArray, List.set])
            (refine held_call 1 rfl (by kernel_rfl) (fun K hK => ?_); go_simp)
            go_at_call 114; refine (RI.out _).mono ?_; rintro e wz1 ⟨rfl, hbq⟩
            have HT := HT.later hbq
            have HX := HX.below hbq
            clear hbq
            (refine hK.out _ _ (⟨HT.a.1, HX.1, (HT.low.cell (p := ⟨b1, o1 + m * 9, none⟩) hb1).trans q0, (HT.low.cell (p := ⟨b1, o1 + m * 9 + 1, none⟩) hb1).trans q1, (HT.low.cell (p := ⟨b1, o1 + m * 9 + 2, none⟩) hb1).trans q2, (HT.low.cell (p := ⟨b1, o1 + m * 9 + 3, none⟩) hb1).trans q3, (HT.low.cell (p := ⟨b1, o1 + m * 9 + 4, none⟩) hb1).trans q4, (HT.low.cell (p := ⟨b1, o1 + m * 9 + 5, none⟩) hb1).trans q5, (HT.low.cell (p := ⟨b1, o1 + m * 9 + 6, none⟩) hb1).trans q6, (HT.low.cell (p := ⟨b1, o1 + m * 9 + 7, none⟩) hb1).trans q7, (HT.low.cell (p := ⟨b1, o1 + m * 9 + 8, none⟩) hb1).trans q8⟩) (fun hHeld => ?_); clear hK K; (try simp only [Act.put, List.setIfInBounds_toArray, List.set]))
            (refine hyes 2 ?_); (refine hyes 3 ?_); (refine hyes 4 ?_); (refine hyes 5 ?_); (refine hyes 6 ?_); (refine hyes 7 ?_); (refine hyes 8 ?_); (refine hyes 9 ?_); (refine hyes 10 ?_); (refine hyes 11 ?_); (refine hyes 12 ?_); (refine hyes 13 ?_); (try simp only [Act.put, List.setIfInBounds_toArray, List.set])
            (refine held_call 14 rfl (by kernel_rfl) (fun K hK => ?_); go_simp)
            go_at_call 107; refine (OR.out _).mono ?_; rintro e wz14 ⟨rfl, hbq⟩
            have HT := HT.later hbq
            have HX := HX.below hbq
            clear hbq
            (refine hK.out _ _ (⟨HT.a.1, HX.1, (HT.low.cell (p := ⟨b1, o1 + m * 9, none⟩) hb1).trans q0, (HT.low.cell (p := ⟨b1, o1 + m * 9 + 1, none⟩) hb1).trans q1, (HT.low.cell (p := ⟨b1, o1 + m * 9 + 2, none⟩) hb1).trans q2, (HT.low.cell (p := ⟨b1, o1 + m * 9 + 3, none⟩) hb1).trans q3, (HT.low.cell (p := ⟨b1, o1 + m * 9 + 4, none⟩) hb1).trans q4, (HT.low.cell (p := ⟨b1, o1 + m * 9 + 5, none⟩) hb1).trans q5, (HT.low.cell (p := ⟨b1, o1 + m * 9 + 6, none⟩) hb1).trans q6, (HT.low.cell (p := ⟨b1, o1 + m * 9 + 7, none⟩) hb1).trans q7, (HT.low.cell (p := ⟨b1, o1 + m * 9 + 8, none⟩) hb1).trans q8⟩) (fun hHeld => ?_); clear hK K; (try simp only [Act.put, List.setIfInBounds_toArray, List.set]))
            (refine hyes 15 ?_); (refine hyes 16 ?_); (refine hyes 17 ?_); (try simp only [Act.put, List.setIfInBounds_toArray, List.set])
            refine wpAnyH_done (by kernel_rfl) ?_ _
            have HTr := Lib.hid HT
            clear HT HX
            go_wp2_with fail
            go_ret
            exact ⟨R.out, HTr.out.low⟩
    · have HI := Lib.hid (show RightP l g h qs F ↔ s1 = true ∧ s2 = true ∧ s3 = false ∧ s4 = true by rw [HI.out, RY.out k hlt HJ.out]; simp)
      have NOI := Lib.hid (show ¬ RightP l g h qs F → RightI l g h qs F (.returned (.bool false)) from rightI_no)
      have HT := HT0
      obtain ⟨ca, fa, za⟩ := HT.out.a
      go_wp2_with fail
      refine (SG.out _ HT.out.low).mono ?_
      rintro e w1 ⟨rfl, hb1⟩
      have HT := Lib.hid (HT.out.later hb1)
      clear hb1 ca fa za SG
      cases s1 with
      | false =>
        have R := Lib.hid (NOI.out (fun hr => by have := (HI.out.1 hr).1; cases this))
        go_wp2_with fail
        go_ret
        exact ⟨R.out, HT.out.low⟩
      | true =>
      obtain ⟨ca, fa, za⟩ := HT.out.a
      go_wp2_with fail
      refine (SH.out _ HT.out.low).mono ?_
      rintro e w2 ⟨rfl, hb1⟩
      have HT := Lib.hid (HT.out.later hb1)
      clear hb1 ca fa za SH
      cases s2 with
      | false =>
        have R := Lib.hid (NOI.out (fun hr => by have := (HI.out.1 hr).2.1; cases this))
        go_wp2_with fail
        go_ret
        exact ⟨R.out, HT.out.low⟩
      | true =>
      obtain ⟨ca, fa, za⟩ := HT.out.a
      go_wp2_with fail
      refine (CF.out _ HT.out.low).mono ?_
      rintro e w3 ⟨rfl, hb1⟩
      have HT := Lib.hid (HT.out.later hb1)
      clear hb1 ca fa za CF
      cases s3 with
      | true =>
        have R := Lib.hid (NOI.out (fun hr => by have := (HI.out.1 hr).2.2.1; cases this))
        go_wp2_with fail
        go_ret
        exact ⟨R.out, HT.out.low⟩
      | false =>
      obtain ⟨ca, fa, za⟩ := HT.out.a
      go_wp2_with fail
      refine (FI.out _ HT.out.low).mono ?_
      rintro e w4 ⟨rfl, hb1⟩
      have HT := Lib.hid (HT.out.later hb1)
      have R := Lib.hid (IFF.out s4 ⟨fun e => HI.out.2 ⟨by trivial, by trivial, by trivial, e⟩, fun hr => (HI.out.1 hr).2.2.2⟩)
      clear hb1 ca fa za FI
      go_wp2_with fail
      go_ret
      exact ⟨R.out, HT.out.low⟩
end Go.Proofs.YtomhekohcadijaaGreatDoor
