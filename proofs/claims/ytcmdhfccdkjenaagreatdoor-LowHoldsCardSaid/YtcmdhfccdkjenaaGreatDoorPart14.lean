/- crupperref05.SortRoles: the rows of roles in order that it makes (printed by gen_rlsort.py out of RefSort). crupperref03.SameRoles: whether two rows of roles are one. Plain laws of rows of roles in order (printed by gen_rlall.py out of OrdLaw, RefSort, StFns). slices.Compact and slices.SortFunc at rows of roles; policy.SortRoles (printed by gen_rlall.py out of Compact, SynSort). slices.SortFunc, slices.Clone at rows of roles; policy.SortRoles (printed by gen_rlall.py out of SynSort). slices.Equal, Grow and Concat at rows of roles (printed by gen_rlall.py out of StSlices, StUnion). slices.IndexFunc and slices.DeleteFunc at rows of roles. crupperref10.Of. The statement StateRows: the walk of the law. The statement StateParts: the walk of the law. How two policies differ, in plain Lean. Package delta: without, with, Back, Empty, Same. Whether two differences are the same (printed by gen_dlsame.py). Whether two rows of texts, two queries, two policies are the same: of the same ones. -/
import Derived.Test.YtcmdhfccdkjenaaGreatDoorPart13
import Derived.Test.YtcmdhfccdkjenaaGreatDoorPart5
import Derived.Deep.RegionLawGrows
import Derived.Test.YtcmdhfccdkjenaaGreatDoorPart3
import Derived.Test.YtcmdhfccdkjenaaGreatDoorPart6
namespace Go.Proofs.YtcmdhfccdkjenaaGreatDoor
open Go.RowKit Go.Shelf
/-- The place of a statement in a row in order. -/
def posSR : List Rl → Rl → Nat
  | [], _ => 0
  | a :: r, x => if cmpR a x < 0 then posSR r x + 1 else 0
def insAtR (l : List Rl) (x : Rl) (k : Nat) : List Rl := l.take k ++ x :: l.drop k
def insSR (l : List Rl) (x : Rl) : List Rl := if hasR l x then l else insAtR l x (posSR l x)
def insAllR : List Rl → List Rl → List Rl
  | acc, [] => acc
  | acc, x :: l => insAllR (insSR acc x) l
theorem pos_ofR : ∀ (l : List Rl) (x : Rl) (k : Nat), k ≤ l.length → (∀ j (hj : j < l.length), j < k → cmpR l[j] x < 0) → (∀ hk : k < l.length, ¬ cmpR l[k] x < 0) → posSR l x = k
  | [], x, k, hk, _, _ => by simp at hk; subst hk; rfl
  | a :: r, x, 0, _, _, h => by
    have h' : ¬ cmpR a x < 0 := h (by simp)
    unfold posSR; rw [if_neg h']
  | a :: r, x, k + 1, hk, h1, h2 => by
    have h' : cmpR a x < 0 := h1 0 (by simp) (by omega)
    unfold posSR
    rw [if_pos h', pos_ofR r x k (by simpa using hk) (fun j hj hjk => h1 (j + 1) (by simp; omega) (by omega)) (fun hk' => h2 (by simp; omega))]
theorem insAll_stepR (acc l : List Rl) (k : Nat) (hk : k < l.length) : insAllR acc (l.drop k) = insAllR (insSR acc l[k]) (l.drop (k + 1)) := by
  rw [List.drop_eq_getElem_cons hk]; rfl
theorem insAll_endR (acc l : List Rl) (k : Nat) (hk : ¬ k < l.length) : insAllR acc (l.drop k) = acc := by
  rw [List.drop_eq_nil_of_le (by omega)]; rfl
theorem insS_hasR {l : List Rl} {x : Rl} (h : hasR l x = true) : insSR l x = l := if_pos h
theorem insS_notR {l : List Rl} {x : Rl} (h : hasR l x = false) : insSR l x = insAtR l x (posSR l x) := if_neg (by rw [h]; exact Bool.false_ne_true)

theorem flat_dropR (l : List Rl) (j : Nat) (hj : j ≤ l.length) (i : Nat) : ((l.drop j).flatMap Rl.cells)[i]? = (l.flatMap Rl.cells)[j * 2 + i]? := by
  have h := List.take_append_drop j l
  have e : (l.flatMap Rl.cells) = (l.take j).flatMap Rl.cells ++ (l.drop j).flatMap Rl.cells := by rw [← List.flatMap_append, h]
  have hl : ((l.take j).flatMap Rl.cells).length = j * 2 := by rw [flat_len _ 2 Rl.cells_len, List.length_take]; congr 1; omega
  rw [e, List.getElem?_append_right (by omega), hl]
  congr 1; omega
theorem flat_takeR (l : List Rl) (j : Nat) (i : Nat) (u : Value) (h : ((l.take j).flatMap Rl.cells)[i]? = some u) : (l.flatMap Rl.cells)[i]? = some u := by
  have e : (l.flatMap Rl.cells) = (l.take j).flatMap Rl.cells ++ (l.drop j).flatMap Rl.cells := by rw [← List.flatMap_append, List.take_append_drop]
  rw [e]
  have hi := (List.getElem?_eq_some_iff.1 h).1
  rw [List.getElem?_append_left hi]; exact h
theorem take_len9R (l : List Rl) (j : Nat) (hj : j ≤ l.length) : ((l.take j).flatMap Rl.cells).length = j * 2 := by
  rw [flat_len _ 2 Rl.cells_len, List.length_take]; congr 1; omega
theorem drop_len9R (l : List Rl) (j : Nat) : ((l.drop j).flatMap Rl.cells).length = (l.length - j) * 2 := by
  rw [flat_len _ 2 Rl.cells_len, List.length_drop]
theorem sl_appR {l : List Rl} {x : Rl} {j : Nat} (_ : j ≤ l.length) : (l.take j).flatMap Rl.cells ++ x.cells ++ (l.drop j).flatMap Rl.cells = (insAtR l x j).flatMap Rl.cells := by
  unfold insAtR; rw [List.flatMap_append, List.flatMap_cons, List.append_assoc]
theorem insAt_lenR {l : List Rl} {x : Rl} {j : Nat} (hj : j ≤ l.length) : (insAtR l x j).length = j + 1 + (l.length - j) := by
  unfold insAtR; rw [List.length_append, List.length_cons, List.length_take, List.length_drop]; omega
theorem app_endR {l : List Rl} {x : Rl} : l.flatMap Rl.cells ++ x.cells = (insAtR l x l.length).flatMap Rl.cells := by
  have h := sl_appR (l := l) (x := x) (j := l.length) (Nat.le_refl _)
  rw [List.take_of_length_le (Nat.le_refl _), List.drop_of_length_le (Nat.le_refl _)] at h
  rw [← h]; simp
theorem insAt_endR {l : List Rl} {x : Rl} : (insAtR l x l.length).length = l.length + 1 := by rw [insAt_lenR (Nat.le_refl _)]; omega
abbrev Two (w : World) (b o : Nat) (s : Rl) : Prop := w.cell? ⟨b, o, none⟩ = some (.string s.o) ∧ w.cell? ⟨b, o + 1, none⟩ = some (.string s.n)
theorem ref3_LessD (x y : Rl) (w : World) : Calls Tryz.prog 136 #[rv x, rv y] w fun e w' => e = .returned (.bool (decide (cmpR x y < 0))) ∧ Below w.heap.size w w' := ref3_Less x y w
theorem Two.below {w w' : World} {b o : Nat} {s : Rl} (h : Two w b o s) (hb : b < w.heap.size) (hw : Below w.heap.size w w') : Two w' b o s := by
  have k : ∀ i, w'.cell? ⟨b, i, none⟩ = w.cell? ⟨b, i, none⟩ := fun i => hw.cell (p := ⟨b, i, none⟩) hb
  obtain ⟨h0, h1⟩ := h
  exact ⟨(k _).trans h0, (k _).trans h1⟩
set_option maxRecDepth 100000 in
set_option maxHeartbeats 8000000 in
theorem ref5_Sort (va : Value) (l : List Rl) (w : World) (ha : SlA w 2 va l.length (l.flatMap Rl.cells)) (hl : l.length ≤ 1000) :
    Calls Tryz.prog 76 #[va] w fun e w' => ∃ v, e = .returned v ∧ Sl w' 2 v (insAllR [] l).length ((insAllR [] l).flatMap Rl.cells) ∧ Below w.heap.size w w' := by
  by_cases h0 : 0 < l.length
  · obtain ⟨b1, o1, c1, rfl, hc1, hm1, hb1, hx1⟩ := ha.pos h0
    have HX1 := Lib.hid hx1
    clear ha hx1
    go_enter Tryz.func76, Tryz.ntmps76
    go_wp2
    go_loopw [3, 10] (fun vo i wr => ∃ (k : Nat) (acc : List Rl), k ≤ l.length ∧ acc.length ≤ k ∧ i = .int .i64 k ∧ Below w.heap.size w wr ∧ Sl wr 2 vo acc.length (acc.flatMap Rl.cells) ∧ Hid (insAllR [] l = insAllR acc (l.drop k))) (fun _ i _ => l.length - (intOf i).toNat)
    case atStart => exact ⟨0, [], by omega, by simp, rfl, Below.refl _ _, Sl.nil _ _, Lib.hid (by simp)⟩
    case round =>
      obtain ⟨k, acc, hk, hak, rfl, hbw, hso, HI⟩ := hrel
      have HBW := Lib.hid hbw
      have HSO := Lib.hid hso
      have hz := hbw.size
      by_cases hlt : k < l.length
      · obtain ⟨p0, p1⟩ := rl_cell (w := wr) (fun j u hu => (hbw.cell (p := ⟨b1, o1 + j, none⟩) hb1).trans (HX1.out j u hu)) k hlt
        have hbr : b1 < wr.heap.size := Nat.lt_of_lt_of_le hb1 hz
        have HST := Lib.hid (HI.out.trans (insAll_stepR acc l k hlt))
        have hx : l[k] = ⟨l[k].o, l[k].n⟩ := rfl
        generalize l[k].o = x1 at *
        generalize l[k].n = x2 at *
        rw [hx] at HST
        clear hx hbw hso HI
        obtain ⟨ao, co, rfl⟩ := HSO.out.form
        go_wp2_with fail
        have HX := Lib.hid (Blk.new wr #[.string x1, .string x2] 28)
        have HS2 := Lib.hid (HSO.out.below ((Below.refl wr.heap.size wr).alloc (Nat.le_refl _) (.cells #[.string x1, .string x2] 28)))
        refine (ref5_Has _ acc ⟨x1, x2⟩ _ HS2.out.a).mono ?_
        rintro e w2 ⟨rfl, hb2⟩
        have HX2 := Lib.hid (HX.out.below hb2)
        have HS3 := Lib.hid (HS2.out.below hb2)
        have HB2 := Lib.hid ((HBW.out.alloc HBW.out.size _).trans (hb2.mono (Nat.le_trans HBW.out.size (by simp))))
        have hz2 := HB2.out.size
        clear hb2 HX HS2 HSO p0 p1
        cases hh : hasR acc ⟨x1, x2⟩ with
        | true =>
          have HE := Lib.hid (HST.out.trans (by rw [insS_hasR hh]))
          clear hh
          go_wp2_with fail
          exact ⟨⟨k + 1, acc, by omega, by omega, by go_num, HB2.out, HS3.out, HE⟩, by simp [intOf]; omega⟩
        | false =>
          have HE := Lib.hid (HST.out.trans (by rw [insS_notR hh]))
          clear hh HST
          obtain ⟨g, hg⟩ : ∃ g, wr.heap.size = g := ⟨_, rfl⟩
          rw [hg] at HX2 ⊢
          clear hg hbr HBW hz
          go_wp2_with fail
          go_loopw [6] (fun i wr => ∃ j : Nat, j ≤ acc.length ∧ i = .int .i64 j ∧ Below w2.heap.size w2 wr ∧ Hid (∀ m (hm : m < acc.length), m < j → cmpR acc[m] ⟨x1, x2⟩ < 0)) (fun i _ => acc.length - (intOf i).toNat)
          case atStart => exact ⟨0, by omega, rfl, Below.refl _ _, Lib.hid (fun _ _ h => absurd h (by omega))⟩
          case round =>
            obtain ⟨j, hj, rfl, hbj, HJ⟩ := hrel
            have HBJ := Lib.hid hbj
            by_cases hjl : j < acc.length
            · obtain ⟨b2, o2, c2, he2, hc2, hm2, hb2, hx2⟩ := HS3.out.pos (by omega)
              simp only [Value.slice.injEq, true_and] at he2
              obtain ⟨rfl, rfl⟩ := he2
              obtain ⟨q0, q1⟩ := rl_cell (w := wr) (fun m u hu => (hbj.cell (p := ⟨b2, o2 + m, none⟩) hb2).trans (hx2 m u hu)) j hjl
              have hbj2 : b2 < wr.heap.size := Nat.lt_of_lt_of_le hb2 hbj.size
              have HX3 := HX2.out.below hbj
              have cx := HX3.1
              have HBF := fun W => ref3_LessD acc[j] ⟨x1, x2⟩ W
              have d : decide ((j : Int) < (acc.length : Int)) = true := by (rw [decide_eq_true_iff]; omega)
              have HX4 : Blk wr.drew g #[.string x1, .string x2] := HX3
              have HQ4 : Two wr.drew b2 (o2 + j * 2) acc[j] := ⟨q0, q1⟩
              have HB4 : Below w2.heap.size w2 wr.drew := below_drew hbj
              clear hx2 hbj
              cases hlt' : decide (cmpR acc[j] ⟨x1, x2⟩ < 0) with
              | true =>
                have HN : Hid (∀ m (hm : m < acc.length), m < j + 1 → cmpR acc[m] ⟨x1, x2⟩ < 0) := Lib.hid (fun m hm hmj => by
                  by_cases hmj' : m < j
                  · exact HJ.out m hm hmj'
                  · obtain rfl : m = j := by omega
                    exact of_decide_eq_true hlt')
                rw [hlt'] at HBF
                clear hlt'
                go_wp2_with fail
                go_region_held3 (fun W => (∀ o, W.cell? ⟨g, o, none⟩ = (#[.string x1, .string x2] : Array Value)[o]?) ∧ Two W b2 (o2 + j * 2) acc[j])
                  (first | exact ⟨HX4.1, HQ4⟩ | go_keep)
                  ((go_at_call 136; refine (HBF _).mono ?_; rintro e wq ⟨rfl, hbq⟩; have HQ4 := HQ4.below hbj2 hbq; have HX4 := HX4.below hbq; have HB4 := HB4.trans (hbq.mono HB4.size)))
                go_wp2
                exact ⟨⟨j + 1, by omega, by go_num, HB4, HN⟩, by simp [intOf]; omega⟩
              | false =>
                have HLT := Lib.hid hlt'
                rw [hlt'] at HBF
                clear hlt'
                go_wp2_with fail
                go_region_held3 (fun W => (∀ o, W.cell? ⟨g, o, none⟩ = (#[.string x1, .string x2] : Array Value)[o]?) ∧ Two W b2 (o2 + j * 2) acc[j])
                  (first | exact ⟨HX4.1, HQ4⟩ | go_keep)
                  ((go_at_call 136; refine (HBF _).mono ?_; rintro e wq ⟨rfl, hbq⟩; have HQ4 := HQ4.below hbj2 hbq; have HX4 := HX4.below hbq; have HB4 := HB4.trans (hbq.mono HB4.size)))
                have hsb := (HS3.out.below HB4).pos (by omega)
                obtain ⟨b3, o3, c3, he3, hc3, hm3, hb3, hx3⟩ := hsb
                simp only [Value.slice.injEq, Option.some.injEq, Addr.mk.injEq, true_and, and_true] at he3
                obtain ⟨⟨rfl, rfl⟩, rfl⟩ := he3
                have HSB := Lib.hid hx3
                clear hx3
                go_wp2_with (at_builtin; refine halt_ ?_)
                unfold Halt_
                refine app_grow Tryz.underlying23 rl_info' rfl (by decide) (by decide) rfl _ _ rfl (ao := some ⟨wq.heap.size, 0, none⟩) (n := 0) (cap := 0) (olds := []) rfl (by simp) (by simp) (by simp) (b := b2) (off := o2 + j * 2) (m := acc.length - j) (c := co - j) (news := (acc.drop j).flatMap Rl.cells) rfl ?_ ?_ (rls_one _) (by omega) (by omega) ?_
                · rw [flat_len _ 2 Rl.cells_len, List.length_drop]
                · intro i u hu
                  rw [flat_dropR acc j hj] at hu
                  have := HSB.out _ _ hu
                  rw [← Nat.add_assoc] at this
                  exact (World.cell?_alloc_past _ _ _ hb3).trans this
                intro v5 w5 hown5 hb5
                have hwq : wq.heap.size < (wq.alloc (.cells #[] 28)).heap.size := by simp
                have HX5 : Blk w5 g #[.string x1, .string x2] := (HX4.alloc _).below hb5
                have hh5 : b2 < w5.heap.size := Nat.lt_of_lt_of_le hb3 (Nat.le_trans (Nat.le_of_lt hwq) hb5.size)
                have HS5 : ∀ i u, (acc.flatMap Rl.cells)[i]? = some u → w5.cell? ⟨b2, o2 + i, none⟩ = some u := fun i u hu => (hb5.cell (p := ⟨b2, o2 + i, none⟩) (Nat.lt_trans hb3 hwq)).trans ((World.cell?_alloc_past _ _ _ hb3).trans (HSB.out i u hu))
                have HB5 : Below w2.heap.size w2 w5 := (HB4.alloc HB4.size _).trans (hb5.mono (Nat.le_trans HB4.size (Nat.le_of_lt hwq)))
                simp only [Nat.zero_add, List.nil_append] at hown5
                obtain ⟨g5, c5, rfl, hg5a, hg5b⟩ := hown5.form (show 0 < acc.length - j by omega)
                have HO5 := Lib.hid hown5
                have HB5' := Lib.hid HB5
                obtain ⟨inf, hi, hz0, hz1, hz2⟩ := info_parts rl_info'
                have HINF := Lib.hid hi
                have HX6 : Blk w5.drew g #[.string x1, .string x2] := HX5
                have HSX := Lib.hid (fun i u (hu : (acc.flatMap Rl.cells)[i]? = some u) => show w5.drew.cell? ⟨b2, o2 + i, none⟩ = some u from HS5 i u hu)
                have HOD := Lib.hid (show w5.drew.ownsRow _ _ 2 _ _ _ from hown5)
                have c5x := HX5.1
                have hgb : g < (w5.drew.alloc (.cells #[.string x1, .string x2] 28)).heap.size := Nat.lt_of_lt_of_le HX6.2.2 (((Below.refl _ w5.drew).alloc (Nat.le_refl _) _).size)
                have hi1 : (0 : Int) ≤ (j : Int) := by omega
                have hi2 : (j : Int) ≤ (acc.length : Int) := by omega
                have hi3 : (j : Int) ≤ (co : Int) := by omega
                clear hown5 hb5 HS5 HB5 HX5 HX4 HB4 HQ4 hi HBF hwq hb3 hbq cx HX3 q0 q1 d
                go_wp2_with fail
                go_region_held3 (fun W => ∀ o, W.cell? ⟨g, o, none⟩ = (#[.string x1, .string x2] : Array Value)[o]?)
                  (first | exact HX6.1 | exact (HX6.alloc _).1 | exact HX7.1 | exact HX9.1 | go_keep)
                  (first
                    | (refine step_append_grows rfl _ _ 23 rfl 28 inf _ 2 32 Tryz.underlying23 HINF.out hz0 hz1 hz2 rfl (Nat.le_of_ble_eq_true rfl) (some ⟨b2, o2, none⟩) j j ((acc.take j).flatMap Rl.cells) rfl ?_ (take_len9R acc j hj) ?_ ⟨w5.heap.size, 0, none⟩ 1 1 (Rl.cells ⟨x1, x2⟩) rfl rfl ?_ (rl1 x1 x2) (Nat.lt_succ_self _) ?_ ?_ ?_; (intro h; cases h); (intro b hb i u hu; cases hb; rw [addr_add]; exact (World.cell?_alloc_past _ _ _ hh5).trans (HSX.out i u (flat_takeR acc j i u hu))); exact cells_new _ _ _ _ rfl; (simp only [maxLen]; omega); omega; intro v7 w7 hown7 hg7; have hb7 := below_of_none hg7; have HX7 := (HX6.alloc _).below hb7; have HO7 := own_below (own_below HOD.out ((Below.refl _ _).alloc (Nat.le_refl _) _)) hb7)
                    | (refine step_append_lies _ rfl _ _ 23 rfl _ 28 inf _ 2 32 Tryz.underlying23 HINF.out hz0 hz1 hz2 rfl (Nat.le_of_ble_eq_true rfl) v7 (j + 1) _ rfl hown7 ⟨g5, 0, none⟩ (acc.length - j) c5 ((acc.drop j).flatMap Rl.cells) rfl (drop_len9R acc j) (HO7.cells (g := g5) rfl) (rls_one _) ?_ ?_ ?_ hb7.size _ rfl ?_; omega; (simp only [maxLen]; omega); omega; intro g9 c9 w9 hown9 hg9 hor9 hlt9; have HX9 := HX7.grown hg9 (own_gt_ne hown7 hgb)))
                have HBw5 := HB2.out.trans (HB5'.out.mono HB2.out.size)
                have HBw6 := (below_drew HBw5).alloc (B := w.heap.size) HBw5.size (.cells #[.string x1, .string x2] 28)
                have HBw7 := HBw6.trans (hb7.mono HBw6.size)
                have HB9 := Lib.hid (below_own HBw7 hown7 hg9 HBw7.size HBw6.size)
                have HSL9 := Lib.hid (Sl.of_own hown9)
                have HPS := Lib.hid (pos_ofR acc ⟨x1, x2⟩ j hj HJ.out (fun _ => of_decide_eq_false HLT.out))
                clear hown9 hg9 hown7 hg7 hb7 HX9 HX7 HO7 HBw5 HBw6 HBw7
                go_wp2
                exact ⟨⟨k + 1, insAtR acc ⟨x1, x2⟩ j, by omega, by rw [insAt_lenR hj]; omega, by go_num, HB9.out, by rw [insAt_lenR hj, ← sl_appR hj]; exact HSL9.out, Lib.hid (by rw [HE.out, HPS.out])⟩, by simp [intOf]; omega⟩
            · obtain rfl : j = acc.length := by omega
              have HPS := Lib.hid (pos_ofR acc ⟨x1, x2⟩ acc.length (Nat.le_refl _) HJ.out (fun h => absurd h hjl))
              obtain ⟨inf, hi, hz0, hz1, hz2'⟩ := info_parts rl_info'
              have HINF := Lib.hid hi
              have HX3 := HX2.out.below hbj
              have cx := HX3.1
              have d : decide ((acc.length : Int) < (acc.length : Int)) = false := by (rw [decide_eq_false_iff_not]; omega)
              clear hi hjl hj
              rcases HS3.out.2.2 with ⟨hv, hn0⟩ | ⟨b2, o2, c2, hv, hc2, hm2, hb2, hx2⟩
              · skip
                have hacc : acc = [] := List.eq_nil_of_length_eq_zero hn0
                simp only [Value.slice.injEq] at hv
                obtain ⟨rfl, -, rfl⟩ := hv
                simp only [hn0]
                clear d
                clear hbj
                go_wp2_with fail
                go_big_quiet (fail)
                go_wp2_with (at_builtin; refine halt_ ?_)
                unfold Halt_
                refine app_zero _ rfl _ _ 23 rfl 28 inf Tryz.underlying23 HINF.out (some ⟨wr.heap.size, 0, none⟩) 0 0 (Nat.le_refl _) rfl _ _ rfl ?_
                obtain ⟨w5, hw5⟩ : ∃ w5, w5 = (wr.drewN nq).alloc (.cells #[] 28) := ⟨_, rfl⟩
                have hb5 : Below wr.heap.size wr w5 := by rw [hw5]; exact (below_drewN (Below.refl _ _) _).alloc (Nat.le_refl _) _
                have hh0 : wr.heap.size ≤ w5.heap.size := hb5.size
                rw [← hw5]
                have HX5 : Blk w5 g #[.string x1, .string x2] := HX3.below hb5
                have HB5' := Lib.hid (HBJ.out.trans (hb5.mono HBJ.out.size))
                have HX6 : Blk w5.drew g #[.string x1, .string x2] := HX5
                have c5x := HX5.1
                have hgb : g < (w5.drew.alloc (.cells #[.string x1, .string x2] 28)).heap.size := Nat.lt_of_lt_of_le HX6.2.2 (((Below.refl _ w5.drew).alloc (Nat.le_refl _) _).size)
                clear hw5 hb5 HX5 HX3 cx
                go_wp2_with fail
                go_region_held3 (fun W => ∀ o, W.cell? ⟨g, o, none⟩ = (#[.string x1, .string x2] : Array Value)[o]?)
                  (first | exact HX6.1 | exact (HX6.alloc _).1 | exact HX7.1 | go_keep)
                  (first
                    | (refine step_append_grows rfl _ _ 23 rfl 28 inf _ 2 32 Tryz.underlying23 HINF.out hz0 hz1 hz2' rfl (Nat.le_of_ble_eq_true rfl) none 0 0 [] rfl ?_ rfl ?_ ⟨w5.heap.size, 0, none⟩ 1 1 (Rl.cells ⟨x1, x2⟩) rfl rfl ?_ (rl1 x1 x2) (Nat.lt_succ_self _) ?_ ?_ ?_; (intro _; exact ⟨rfl, rfl⟩); (intro b hb; cases hb); exact cells_new _ _ _ _ rfl; (simp only [maxLen]; omega); omega; intro v7 w7 hown7 hg7; obtain ⟨a7, c7, rfl, hc7⟩ := own_form2 hown7; have hb7 := below_of_none hg7; have HX7 := (HX6.alloc _).below hb7)
                    | (refine step_zero _ rfl _ _ 23 rfl 28 inf Tryz.underlying23 HINF.out _ _ c7 hc7 rfl _ _ rfl ?_))
                have HBw5 := HB2.out.trans (HB5'.out.mono HB2.out.size)
                have HBw6 := (below_drew HBw5).alloc (B := w.heap.size) HBw5.size (.cells #[.string x1, .string x2] 28)
                have HB9 := Lib.hid (HBw6.trans (hb7.mono HBw6.size))
                have HSL9 := Lib.hid (Sl.of_own hown7)
                clear hg7 hb7 hown7 HX7 HBw5 HBw6
                go_wp2
                exact ⟨⟨k + 1, insAtR acc ⟨x1, x2⟩ acc.length, by omega, by rw [insAt_endR]; omega, by go_num, HB9.out, by rw [insAt_endR, ← app_endR, hacc]; exact HSL9.out, Lib.hid (by rw [HE.out, HPS.out])⟩, by simp [intOf]; omega⟩
              · simp only [Value.slice.injEq, true_and] at hv
                obtain ⟨rfl, rfl⟩ := hv
                by_cases hco : co = acc.length
                · skip
                  subst hco
                  clear hbj
                  go_wp2_with fail
                  go_big_quiet (fail)
                  go_wp2_with (at_builtin; refine halt_ ?_)
                  unfold Halt_
                  refine app_zero _ rfl _ _ 23 rfl 28 inf Tryz.underlying23 HINF.out (some ⟨wr.heap.size, 0, none⟩) 0 0 (Nat.le_refl _) rfl _ _ rfl ?_
                  obtain ⟨w5, hw5⟩ : ∃ w5, w5 = (wr.drewN nq).alloc (.cells #[] 28) := ⟨_, rfl⟩
                  have hb5 : Below wr.heap.size wr w5 := by rw [hw5]; exact (below_drewN (Below.refl _ _) _).alloc (Nat.le_refl _) _
                  have hh0 : wr.heap.size ≤ w5.heap.size := hb5.size
                  rw [← hw5]
                  have HX5 : Blk w5 g #[.string x1, .string x2] := HX3.below hb5
                  have HB5' := Lib.hid (HBJ.out.trans (hb5.mono HBJ.out.size))
                  have hh5 : b2 < w5.heap.size := Nat.lt_of_lt_of_le hb2 HB5'.out.size
                  have HSX := Lib.hid (fun i u (hu : (acc.flatMap Rl.cells)[i]? = some u) => show w5.drew.cell? ⟨b2, o2 + i, none⟩ = some u from (HB5'.out.cell (p := ⟨b2, o2 + i, none⟩) hb2).trans (hx2 i u hu))
                  have hi1 : (0 : Int) ≤ (acc.length : Int) := by omega
                  have hi3 : (acc.length : Int) ≤ (acc.length : Int) := by omega
                  have HX6 : Blk w5.drew g #[.string x1, .string x2] := HX5
                  have c5x := HX5.1
                  have hgb : g < (w5.drew.alloc (.cells #[.string x1, .string x2] 28)).heap.size := Nat.lt_of_lt_of_le HX6.2.2 (((Below.refl _ w5.drew).alloc (Nat.le_refl _) _).size)
                  clear hw5 hb5 HX5 HX3 cx hx2
                  go_wp2_with fail
                  go_region_held3 (fun W => ∀ o, W.cell? ⟨g, o, none⟩ = (#[.string x1, .string x2] : Array Value)[o]?)
                    (first | exact HX6.1 | exact (HX6.alloc _).1 | exact HX7.1 | go_keep)
                    (first
                      | (refine step_append_grows rfl _ _ 23 rfl 28 inf _ 2 32 Tryz.underlying23 HINF.out hz0 hz1 hz2' rfl (Nat.le_of_ble_eq_true rfl) (some ⟨b2, o2, none⟩) acc.length acc.length (acc.flatMap Rl.cells) rfl ?_ (flat_len _ 2 Rl.cells_len acc) ?_ ⟨w5.heap.size, 0, none⟩ 1 1 (Rl.cells ⟨x1, x2⟩) rfl rfl ?_ (rl1 x1 x2) (Nat.lt_succ_self _) ?_ ?_ ?_; (intro h; cases h); (intro b hb i u hu; cases hb; rw [addr_add]; exact (World.cell?_alloc_past _ _ _ hh5).trans (HSX.out i u hu)); exact cells_new _ _ _ _ rfl; (simp only [maxLen]; omega); omega; intro v7 w7 hown7 hg7; obtain ⟨a7, c7, rfl, hc7⟩ := own_form2 hown7; have hb7 := below_of_none hg7; have HX7 := (HX6.alloc _).below hb7)
                      | (refine step_zero _ rfl _ _ 23 rfl 28 inf Tryz.underlying23 HINF.out _ _ c7 hc7 rfl _ _ rfl ?_))
                  have HBw5 := HB2.out.trans (HB5'.out.mono HB2.out.size)
                  have HBw6 := (below_drew HBw5).alloc (B := w.heap.size) HBw5.size (.cells #[.string x1, .string x2] 28)
                  have HB9 := Lib.hid (HBw6.trans (hb7.mono HBw6.size))
                  have HSL9 := Lib.hid (Sl.of_own hown7)
                  clear hg7 hb7 hown7 HX7 HBw5 HBw6
                  go_wp2
                  exact ⟨⟨k + 1, insAtR acc ⟨x1, x2⟩ acc.length, by omega, by rw [insAt_endR]; omega, by go_num, HB9.out, by rw [insAt_endR, ← app_endR]; exact HSL9.out, Lib.hid (by rw [HE.out, HPS.out])⟩, by simp [intOf]; omega⟩
                · skip
                  have hco2 : acc.length < co := by omega
                  clear hbj
                  go_wp2_with fail
                  go_big_quiet (fail)
                  go_wp2_with (at_builtin; refine halt_ ?_)
                  unfold Halt_
                  refine app_zero _ rfl _ _ 23 rfl 28 inf Tryz.underlying23 HINF.out (some ⟨wr.heap.size, 0, none⟩) 0 0 (Nat.le_refl _) rfl _ _ rfl ?_
                  obtain ⟨w5, hw5⟩ : ∃ w5, w5 = (wr.drewN nq).alloc (.cells #[] 28) := ⟨_, rfl⟩
                  have hb5 : Below wr.heap.size wr w5 := by rw [hw5]; exact (below_drewN (Below.refl _ _) _).alloc (Nat.le_refl _) _
                  have hh0 : wr.heap.size ≤ w5.heap.size := hb5.size
                  rw [← hw5]
                  have HX5 : Blk w5 g #[.string x1, .string x2] := HX3.below hb5
                  have HB5' := Lib.hid (HBJ.out.trans (hb5.mono HBJ.out.size))
                  have hh5 : b2 < w5.heap.size := Nat.lt_of_lt_of_le hb2 HB5'.out.size
                  have HSX := Lib.hid (fun i u (hu : (acc.flatMap Rl.cells)[i]? = some u) => show w5.drew.cell? ⟨b2, o2 + i, none⟩ = some u from (HB5'.out.cell (p := ⟨b2, o2 + i, none⟩) hb2).trans (hx2 i u hu))
                  have hi1 : (0 : Int) ≤ (acc.length : Int) := by omega
                  have hi3 : (acc.length : Int) ≤ (co : Int) := by omega
                  have HX6 : Blk w5.drew g #[.string x1, .string x2] := HX5
                  have c5x := HX5.1
                  have hgb : g < (w5.drew.alloc (.cells #[.string x1, .string x2] 28)).heap.size := Nat.lt_of_lt_of_le HX6.2.2 (((Below.refl _ w5.drew).alloc (Nat.le_refl _) _).size)
                  clear hw5 hb5 HX5 HX3 cx hx2
                  go_wp2_with fail
                  go_region_held3 (fun W => ∀ o, W.cell? ⟨g, o, none⟩ = (#[.string x1, .string x2] : Array Value)[o]?)
                    (first | exact HX6.1 | exact (HX6.alloc _).1 | exact HX7.1 | go_keep)
                    (first
                      | (refine step_append_grows rfl _ _ 23 rfl 28 inf _ 2 32 Tryz.underlying23 HINF.out hz0 hz1 hz2' rfl (Nat.le_of_ble_eq_true rfl) (some ⟨b2, o2, none⟩) acc.length acc.length (acc.flatMap Rl.cells) rfl ?_ (flat_len _ 2 Rl.cells_len acc) ?_ ⟨w5.heap.size, 0, none⟩ 1 1 (Rl.cells ⟨x1, x2⟩) rfl rfl ?_ (rl1 x1 x2) (Nat.lt_succ_self _) ?_ ?_ ?_; (intro h; cases h); (intro b hb i u hu; cases hb; rw [addr_add]; exact (World.cell?_alloc_past _ _ _ hh5).trans (HSX.out i u hu)); exact cells_new _ _ _ _ rfl; (simp only [maxLen]; omega); omega; intro v7 w7 hown7 hg7; obtain ⟨a7, c7, rfl, hc7⟩ := own_form2 hown7; have hb7 := below_of_none hg7; have HX7 := (HX6.alloc _).below hb7)
                      | (refine step_zero _ rfl _ _ 23 rfl 28 inf Tryz.underlying23 HINF.out _ _ c7 hc7 rfl _ _ rfl ?_))
                  have HBw5 := HB2.out.trans (HB5'.out.mono HB2.out.size)
                  have HBw6 := (below_drew HBw5).alloc (B := w.heap.size) HBw5.size (.cells #[.string x1, .string x2] 28)
                  have HB9 := Lib.hid (HBw6.trans (hb7.mono HBw6.size))
                  have HSL9 := Lib.hid (Sl.of_own hown7)
                  clear hg7 hb7 hown7 HX7 HBw5 HBw6
                  go_wp2
                  exact ⟨⟨k + 1, insAtR acc ⟨x1, x2⟩ acc.length, by omega, by rw [insAt_endR]; omega, by go_num, HB9.out, by rw [insAt_endR, ← app_endR]; exact HSL9.out, Lib.hid (by rw [HE.out, HPS.out])⟩, by simp [intOf]; omega⟩
      · have R := Lib.hid (HI.out.trans (insAll_endR acc l k hlt))
        obtain ⟨ao, co, rfl⟩ := hso.form
        clear hbw hso
        go_wp2
        go_ret
        exact ⟨_, rfl, by rw [R.out]; exact HSO.out, HBW.out⟩
  · obtain ⟨a1, c1, rfl⟩ := ha.form
    obtain rfl : l = [] := List.eq_nil_of_length_eq_zero (by omega)
    clear ha h0 hl
    go_enter Tryz.func76, Tryz.ntmps76
    go_wp2
    go_loopw [3, 10] (fun vo i wr => vo = .slice none 0 0 ∧ i = .int .i64 0 ∧ wr = w) (fun _ _ _ => 0)
    case atStart => exact ⟨rfl, rfl, rfl⟩
    case round =>
      obtain ⟨rfl, rfl, rfl⟩ := hrel
      go_wp2
      go_ret
      exact ⟨_, rfl, Sl.nil _ _, Below.refl _ _⟩

end Go.Proofs.YtcmdhfccdkjenaaGreatDoor
namespace Go.Proofs.YtcmdhfccdkjenaaGreatDoor
open Go.RowKit Go.Shelf

theorem same_lenR {l m : List Rl} (h : ¬ l.length = m.length) : decide (l = m) = false := decide_eq_false (fun e => h (by rw [e]))
theorem take_moreR {l m : List Rl} {k : Nat} (h : l.take k = m.take k) (hl : k < l.length) (hm : k < m.length) (e : l[k] = m[k]) : l.take (k + 1) = m.take (k + 1) := by
  rw [List.take_succ_eq_append_getElem hl, List.take_succ_eq_append_getElem hm, h, e]
theorem same_endR {l m : List Rl} {k : Nat} (h : l.take k = m.take k) (hl : ¬ k < l.length) (hm : ¬ k < m.length) : decide (l = m) = true := by
  rw [List.take_of_length_le (by omega), List.take_of_length_le (by omega)] at h
  exact decide_eq_true h
theorem same_noR {l m : List Rl} {k : Nat} (hl : k < l.length) (hm : k < m.length) (e : ¬ l[k] = m[k]) : decide (l = m) = false := decide_eq_false (fun h => e (by subst h; rfl))

set_option maxRecDepth 100000 in
set_option maxHeartbeats 2000000 in
theorem ref3_SameRolesD (va vb : Value) (l m : List Rl) (w : World) (ha : SlA w 2 va l.length (l.flatMap Rl.cells)) (hb : SlA w 2 vb m.length (m.flatMap Rl.cells)) :
    Calls Tryz.prog 75 #[va, vb] w fun e w' => e = .returned (.bool (decide (l = m))) ∧ ∃ n, w' = w.drewN n := by
  have hmax := ha.max
  have hmax2 := hb.max
  by_cases hl : l.length = m.length
  case neg =>
    have R := Lib.hid (same_lenR hl)
    have d : ((l.length : Int) != (m.length : Int)) = true := by rw [bne_iff_ne]; omega
    obtain ⟨a1, c1, rfl⟩ := ha.form
    obtain ⟨a2, c2, rfl⟩ := hb.form
    clear ha hb hl
    go_enter Tryz.func75, Tryz.ntmps75
    go_wp2
    go_ret
    exact ⟨ret_b R.out.symm, 0, rfl⟩
  have hNe := role_neq
  have hne : ((l.length : Int) != (m.length : Int)) = false := by rw [hl]; simp
  by_cases h0 : 0 < l.length
  · obtain ⟨b1, o1, c1, rfl, hc1, hm1, _, hx1⟩ := ha.pos h0
    obtain ⟨b2, o2, c2, rfl, hc2, hm2, _, hx2⟩ := hb.pos (by omega)
    have HX1 := Lib.hid hx1
    have HX2 := Lib.hid hx2
    have HL := Lib.hid hl
    clear ha hb hx1 hx2 hl
    go_enter Tryz.func75, Tryz.ntmps75
    go_wp2
    go_loopw [13] (fun i wr => ∃ k n : Nat, k ≤ l.length ∧ i = .int .i64 k ∧ wr = w.drewN n ∧ Hid (l.take k = m.take k)) (fun i _ => l.length - (intOf i).toNat)
    case atStart => exact ⟨0, 0, by omega, rfl, rfl, Lib.hid (by simp)⟩
    case round =>
      obtain ⟨k, n, hk, rfl, rfl, HT⟩ := hrel
      by_cases hlt : k < l.length
      · have hlt2 : k < m.length := by have := HL.out; omega
        obtain ⟨p0, p1⟩ := rl_cell HX1.out k hlt
        obtain ⟨q0, q1⟩ := rl_cell HX2.out k hlt2
        by_cases he : l[k] = m[k]
        · have HN := Lib.hid (take_moreR HT.out hlt hlt2 he)
          have d1 : (!eqRl ⟨l[k].o, l[k].n⟩ ⟨m[k].o, m[k].n⟩) = false := by
            have := congrArg (!·) (decide_eq_true he); exact this
          clear he
          go_wp2_with fail
          go_big_quiet (fail)
          go_wp2
          exact ⟨⟨k + 1, n + nq, by omega, by go_num, rfl, HN⟩, by simp [intOf]; omega⟩
        · have R := Lib.hid (same_noR hlt hlt2 he)
          have d1 : (!eqRl ⟨l[k].o, l[k].n⟩ ⟨m[k].o, m[k].n⟩) = true := by
            have := congrArg (!·) (decide_eq_false he); exact this
          clear he
          go_wp2_with fail
          go_big_quiet (fail)
          go_wp2
          go_ret
          exact ⟨ret_b R.out.symm, n + nq, by simp [World.drewN, Nat.add_assoc]⟩
      · have R := Lib.hid (same_endR HT.out hlt (by have := HL.out; omega))
        go_wp2
        go_ret
        exact ⟨ret_b R.out.symm, n, rfl⟩
  · have R := Lib.hid (same_endR (l := l) (m := m) (k := 0) (by simp) h0 (by omega))
    obtain ⟨a1, c1, rfl⟩ := ha.form
    obtain ⟨a2, c2, rfl⟩ := hb.form
    have d0 : l.length = 0 := by omega
    have d02 : m.length = 0 := by omega
    clear ha hb h0 hmax hl hmax2
    go_enter Tryz.func75, Tryz.ntmps75
    go_wp2
    go_loopw [13] (fun i wr => i = .int .i64 0 ∧ wr = w) (fun _ _ => 0)
    case atStart => exact ⟨rfl, rfl⟩
    case round =>
      obtain ⟨rfl, rfl⟩ := hrel
      go_wp2
      go_ret
      exact ⟨ret_b R.out.symm, 0, rfl⟩

theorem ref3_SameRolesE (va vb : Value) (l m : List Rl) (w : World) (ha : SlA w 2 va l.length (l.flatMap Rl.cells)) (hb : SlA w 2 vb m.length (m.flatMap Rl.cells)) :
    Calls Tryz.prog 75 #[va, vb] w fun e w' => e = .returned (.bool (decide (l = m))) ∧ Below w.heap.size w w' :=
  (ref3_SameRolesD va vb l m w ha hb).mono fun e w' ⟨he, n, hn⟩ => ⟨he, by rw [hn]; exact below_of_drewN n⟩
end Go.Proofs.YtcmdhfccdkjenaaGreatDoor
namespace Go.Proofs.YtcmdhfccdkjenaaGreatDoor
open Go.RowKit Go.Shelf

theorem eqRl_selfR (x : Rl) : eqRl x x = true := decide_eq_true rfl
theorem hasR_mem (l : List Rl) (x : Rl) : hasR l x = true ↔ x ∈ l := by
  unfold hasR; rw [List.any_eq_true]
  constructor
  · rintro ⟨y, hy, e⟩; rw [← of_decide_eq_true e]; exact hy
  · intro h; exact ⟨x, h, eqRl_selfR x⟩
/-- A row in order without those that stand twice. -/
def dedupR : List Rl → List Rl
  | [] => []
  | [x] => [x]
  | x :: y :: r => if x = y then dedupR (y :: r) else x :: dedupR (y :: r)
/-- A row in order, each once. -/
def ordR (l : List Rl) : List Rl := insAllR [] l
theorem filter_takeR {l : List Rl} {p : Rl → Bool} {k : Nat} (h : k < l.length) : (l.take (k + 1)).filter p = (l.take k).filter p ++ (if p l[k] = true then [l[k]] else []) := by
  rw [List.take_succ_eq_append_getElem h, List.filter_append]
  cases hp : p l[k] <;> simp [hp]
theorem filter_yesR {l : List Rl} {p : Rl → Bool} {k : Nat} (h : k < l.length) (hp : p l[k] = true) : (l.take (k + 1)).filter p = (l.take k).filter p ++ [l[k]] := by
  rw [filter_takeR h, if_pos hp]
theorem filter_noR {l : List Rl} {p : Rl → Bool} {k : Nat} (h : k < l.length) (hp : p l[k] = false) : (l.take (k + 1)).filter p = (l.take k).filter p := by
  rw [filter_takeR h, if_neg (by rw [hp]; exact Bool.false_ne_true), List.append_nil]
end Go.Proofs.YtcmdhfccdkjenaaGreatDoor
namespace Go.Proofs.YtcmdhfccdkjenaaGreatDoor
open Go.RowKit Go.Shelf

theorem dedup_snocR : ∀ (p : List Rl) (y z : Rl), dedupR (p ++ [y, z]) = if y = z then dedupR (p ++ [y]) else dedupR (p ++ [y]) ++ [z]
  | [], y, z => by
    show dedupR [y, z] = if y = z then dedupR [y] else dedupR [y] ++ [z]
    unfold dedupR
    by_cases h : y = z
    · rw [if_pos h, if_pos h, h]; rfl
    · rw [if_neg h, if_neg h]; rfl
  | [x], y, z => by
    have ih := dedup_snocR [] y z
    simp only [List.nil_append] at ih
    show dedupR (x :: y :: [z]) = if y = z then dedupR (x :: y :: []) else dedupR (x :: y :: []) ++ [z]
    have e1 : dedupR (x :: y :: [z]) = if x = y then dedupR [y, z] else x :: dedupR [y, z] := rfl
    have e2 : dedupR (x :: y :: []) = if x = y then dedupR [y] else x :: dedupR [y] := rfl
    rw [e1, e2, ih]
    by_cases h1 : x = y <;> by_cases h2 : y = z <;> simp [h1, h2]
  | x :: x' :: p, y, z => by
    have ih := dedup_snocR (x' :: p) y z
    simp only [List.cons_append] at ih ⊢
    have e1 : ∀ r, dedupR (x :: x' :: r) = if x = x' then dedupR (x' :: r) else x :: dedupR (x' :: r) := fun _ => rfl
    rw [e1, e1, ih]
    by_cases h1 : x = x' <;> by_cases h2 : y = z <;> simp [h1, h2]
theorem take_twoR (l : List Rl) (m : Nat) (h : m + 1 < l.length) : l.take (m + 2) = l.take m ++ [l[m], l[m + 1]] := by
  rw [List.take_succ_eq_append_getElem h, List.take_succ_eq_append_getElem (by omega), List.append_assoc]; rfl
theorem dedup_sameR (l : List Rl) (m : Nat) (h : m + 1 < l.length) (e : l[m] = l[m + 1]) : dedupR (l.take (m + 2)) = dedupR (l.take (m + 1)) := by
  rw [take_twoR l m h, dedup_snocR, if_pos e, List.take_succ_eq_append_getElem (by omega)]
theorem dedup_moreR (l : List Rl) (m : Nat) (h : m + 1 < l.length) (e : ¬ l[m] = l[m + 1]) : dedupR (l.take (m + 2)) = dedupR (l.take (m + 1)) ++ [l[m + 1]] := by
  rw [take_twoR l m h, dedup_snocR, if_neg e, List.take_succ_eq_append_getElem (by omega)]
/-- The first k of a row that Compact works on are what stays of its first m; the rest is as it was. -/
structure HalfR (w : World) (b o : Nat) (l : List Rl) (m k : Nat) : Prop where
  len : (dedupR (l.take m)).length = k
  low : ∀ i (hi : i < (dedupR (l.take m)).length), Two w b (o + i * 2) (dedupR (l.take m))[i]
  high : ∀ i (hi : i < l.length), k ≤ i → Two w b (o + i * 2) l[i]
def W2 (w : World) (b a : Nat) (s : Rl) : World := (w.setCell ⟨b, a, none⟩ (.string s.o)).setCell ⟨b, a + 1, none⟩ (.string s.n)
theorem w2_far (w : World) (b a i : Nat) (s : Rl) (h : i < a ∨ a + 2 ≤ i) : (W2 w b a s).cell? ⟨b, i, none⟩ = w.cell? ⟨b, i, none⟩ := by
  unfold W2
  rw [set_far _ _ _ _ _ (by omega), set_far _ _ _ _ _ (by omega)]
theorem w2_new {w : World} {b a : Nat} (s s0 : Rl) (h : Two w b a s0) : Two (W2 w b a s) b a s := by
  obtain ⟨h0, h1⟩ := h
  refine ⟨?_, ?_⟩
  · unfold W2; rw [set_far _ _ _ _ _ (by omega)]; exact World.cell?_setCell_same _ _ _ (u := _) h0
  · unfold W2; refine World.cell?_setCell_same _ _ _ (u := .string s0.n) ?_; rw [set_far _ _ _ _ _ (by omega)]; exact h1
theorem Two.drop1 {w w' : World} {b x : Nat} {s : Rl} (h : Two w b x s) (hw : ∀ i, x ≤ i → i < x + 2 → w'.cell? ⟨b, i, none⟩ = w.cell? ⟨b, i, none⟩) : Two w' b x s := by
  obtain ⟨h0, h1⟩ := h
  exact ⟨(hw _ (by omega) (by omega)).trans h0, (hw _ (by omega) (by omega)).trans h1⟩
theorem HalfR.put {w : World} {b o m kk : Nat} {l : List Rl} (h : HalfR w b o l (m + 1) kk) (hm : m + 1 < l.length) (hk : kk ≤ m) (e : ¬ l[m] = l[m + 1]) : HalfR (W2 w b (o + kk * 2) l[m + 1]) b o l (m + 2) (kk + 1) := by
  have hd := dedup_moreR l m hm e
  refine ⟨by rw [hd, List.length_append, h.len]; rfl, fun i hi => ?_, fun i hi hik => ?_⟩
  · rw [hd, List.length_append, h.len] at hi
    simp only [List.length_cons, List.length_nil] at hi
    by_cases hik : i < kk
    · have e1 : (dedupR (l.take (m + 2)))[i]'(by rw [hd, List.length_append, h.len]; simp; omega) = (dedupR (l.take (m + 1)))[i]'(by rw [h.len]; exact hik) := by
        simp only [hd]; rw [List.getElem_append_left]
      rw [e1]
      exact (h.low i (by rw [h.len]; exact hik)).drop1 (fun j _ _ => w2_far _ _ _ _ _ (by omega))
    · obtain rfl : i = kk := by omega
      have e1 : (dedupR (l.take (m + 2)))[i]'(by rw [hd, List.length_append, h.len]; simp) = l[m + 1] := by
        simp only [hd]; rw [List.getElem_append_right (by rw [h.len]; exact Nat.le_refl _)]; simp [h.len]
      rw [e1]
      exact w2_new _ _ (h.high i (by omega) (Nat.le_refl _))
  · exact (h.high i hi (by omega)).drop1 (fun j _ _ => w2_far _ _ _ _ _ (by omega))
theorem HalfR.same {w : World} {b o m kk : Nat} {l : List Rl} (h : HalfR w b o l (m + 1) kk) (hm : m + 1 < l.length) (e : l[m] = l[m + 1]) : HalfR w b o l (m + 2) kk := by
  have hd := dedup_sameR l m hm e
  exact ⟨by rw [hd]; exact h.len, fun i hi => by simp only [hd]; exact h.low i (by rw [← hd]; exact hi), h.high⟩
theorem HalfR.drewN {w : World} {b o m k : Nat} {l : List Rl} (h : HalfR w b o l m k) (n : Nat) : HalfR (w.drewN n) b o l m k := ⟨h.len, h.low, h.high⟩
theorem two_someR {w : World} {b x : Nat} {s : Rl} (h : Two w b x s) (f : Nat) (hf : f < 2) : (w.cell? ⟨b, x + f, none⟩).isSome = true := by
  obtain ⟨h0, h1⟩ := h
  match f, hf with
  | 0, _ => rw [Nat.add_zero, h0]; rfl
  | 1, _ => rw [h1]; rfl
theorem HalfR.all {w : World} {b o m k : Nat} {l : List Rl} (h : HalfR w b o l m k) (hm : m = l.length) : (dedupR l).length = k ∧ ∀ i (hi : i < (dedupR l).length), Two w b (o + i * 2) (dedupR l)[i] := by
  subst hm
  obtain ⟨h1, h2, _⟩ := h
  simp only [List.take_of_length_le (Nat.le_refl _)] at h1 h2
  exact ⟨h1, h2⟩
end Go.Proofs.YtcmdhfccdkjenaaGreatDoor
namespace Go.Proofs.YtcmdhfccdkjenaaGreatDoor
open Go.RowKit Go.Shelf Go.Lib Go.Sort

instance rlInh : Inhabited Rl := ⟨⟨ByteArray.empty, ByteArray.empty⟩⟩
/-- A row of roles of the call's own, that may be turned. -/
def OwnR (w w' : World) (v : Value) (l : List Rl) : Prop :=
  (v = .slice none 0 0 ∧ l = []) ∨ ∃ g cap, v = .slice (some ⟨g, 0, none⟩) l.length cap ∧ w.heap.size ≤ g ∧ g < w'.heap.size ∧ l.length ≤ cap ∧ cap ≤ 9223372036854775807 ∧ (∀ j u, (l.flatMap Rl.cells)[j]? = some u → w'.cell? ⟨g, 0 + j, none⟩ = some u) ∧ ∀ i, w'.frozen? ⟨g, i, none⟩ = false
theorem OwnR.sl {w w' : World} {v : Value} {l : List Rl} (h : OwnR w w' v l) : Sl w' 2 v l.length (l.flatMap Rl.cells) := by
  have hmax : maxLen = 9223372036854775807 := by decide
  rcases h with ⟨rfl, rfl⟩ | ⟨g, cap, rfl, _, h2, h3, h4, h5, _⟩
  · exact Sl.nil _ _
  · exact ⟨flat_len _ _ Rl.cells_len _, by omega, .inr ⟨g, 0, cap, rfl, h3, by omega, h2, h5⟩⟩
end Go.Proofs.YtcmdhfccdkjenaaGreatDoor
namespace Go.Proofs.YtcmdhfccdkjenaaGreatDoor
open Go.RowKit Go.Shelf

theorem rl_Grow (n : Nat) (w : World) (hn : n ≤ 2000) : Calls Tryz.prog 215 #[.slice none 0 0, .int .i64 n] w fun e w' =>
    ∃ a cap, e = .returned (.slice a 0 cap) ∧ w'.ownsRow w.heap.size 28 2 (.slice a 0 cap) 0 [] ∧ Below w.heap.size w w' := by
  by_cases h0 : 0 < n
  · obtain ⟨inf, hinf, hz0, hz1, hz2⟩ := info_parts rl_info'
    refine (Any8.slices_Grow_grow Tryz.growR inf _ hinf hz0 (by omega) none 0 0 n [] w (Nat.le_refl _) (by omega) (by rw [hz2]; omega) (by omega) (by simp) (fun _ => rfl) (fun a h => by cases h)).mono ?_
    rintro e w' ⟨rfl, rfl⟩
    have hge := grownCap_ge w (0 + n) 0 28
    have hle := grownCap_le_maxLen w (0 + n) 0 28 (by simp only [maxLen]; omega)
    refine ⟨_, _, rfl, World.ownsRow_made w.drew _ _ (Nat.le_refl _) hle ?_, (below_drew (Below.refl _ _)).alloc (Nat.le_refl _) _⟩
    rw [Nat.zero_add] at hge hle ⊢
    simp [Builtin.zeroCells, Value.cells]
    rw [show Tryz.growR_ren.t 25 = 28 from rfl]
    omega
  · obtain rfl : n = 0 := by omega
    refine (Any8.slices_Grow_room Tryz.growR none 0 0 0 w (Nat.le_refl _) (by omega) (by omega) (by omega)).mono ?_
    rintro e w' ⟨rfl, rfl⟩
    exact ⟨_, _, rfl, World.ownsRow_nil _ _ _ _, Below.refl _ _⟩
set_option maxRecDepth 100000 in
set_option maxHeartbeats 4000000 in
/-- slices.Concat of two rows. -/
theorem rl_Concat (g : Nat) (va vb : Value) (l m : List Rl) (w : World) (hg : Blk w g #[va, vb]) (ha : SlA w 2 va l.length (l.flatMap Rl.cells)) (hb : SlA w 2 vb m.length (m.flatMap Rl.cells)) (hl : l.length ≤ 1000) (hm : m.length ≤ 1000) :
    Calls Tryz.prog 179 #[.slice (some ⟨g, 0, none⟩) 2 2] w fun e w' => ∃ v, e = .returned v ∧ Sl w' 2 v (l ++ m).length ((l ++ m).flatMap Rl.cells) ∧ Below w.heap.size w w' := by
  have HA := Lib.hid ha
  have HB := Lib.hid hb
  have HG := Lib.hid hg
  obtain ⟨ao, ac, hva⟩ := ha.form
  obtain ⟨bo, bc, hvb⟩ := hb.form
  subst hva hvb
  have GR : Hid (∀ W, Calls Tryz.prog 215 #[.slice none 0 0, .int .i64 ((l.length : Int) + (m.length : Int))] W fun e w' =>
      ∃ a cap, e = .returned (.slice a 0 cap) ∧ w'.ownsRow W.heap.size 28 2 (.slice a 0 cap) 0 [] ∧ Below W.heap.size W w') := Lib.hid (fun W => by
    have h := rl_Grow (l.length + m.length) W (by omega)
    rw [Int.natCast_add] at h
    exact h)
  have c0 : w.cell? ⟨g, 0, none⟩ = some (.slice ao l.length ac) := (hg.1 0).trans rfl
  have c1 : w.cell? ⟨g, 1, none⟩ = some (.slice bo m.length bc) := (hg.1 1).trans rfl
  have hgw : g < w.heap.size := hg.2.2
  clear ha hb hg
  go_enter Tryz.func179, Tryz.ntmps179
  go_wp2
  go_loop [3, 11] (fun n i => (n = .int .i64 0 ∧ i = .int .i64 0) ∨ (n = .int .i64 l.length ∧ i = .int .i64 1) ∨ (n = .int .i64 ((l.length : Int) + (m.length : Int)) ∧ i = .int .i64 2)) (fun _ i => 2 - (intOf i).toNat)
  case atStart => exact .inl ⟨rfl, rfl⟩
  case round =>
    obtain ⟨rfl, rfl⟩ | ⟨rfl, rfl⟩ | ⟨rfl, rfl⟩ := hrel
    · have d : decide ((l.length : Int) < 0) = false := by (rw [decide_eq_false_iff_not]; omega)
      have hw : IntKind.i64.wrap ((0 : Int) + (l.length : Int)) = (l.length : Int) := by rw [Int.zero_add]; exact Go.IntWalk.i64_in _ (by omega)
      go_wp2
      exact ⟨.inr (.inl ⟨rfl, rfl⟩), by simp [intOf]⟩
    · have d : decide ((l.length : Int) + (m.length : Int) < 0) = false := by (rw [decide_eq_false_iff_not]; omega)
      have hw : IntKind.i64.wrap ((l.length : Int) + (m.length : Int)) = (l.length : Int) + (m.length : Int) := Go.IntWalk.i64_in _ (by omega)
      go_wp2
      exact ⟨.inr (.inr ⟨rfl, rfl⟩), by simp [intOf]⟩
    · go_wp2_with fail
      refine (GR.out _).mono ?_
      rintro e w1 ⟨a1, cap1, rfl, hown, hb1⟩
      have HO := Lib.hid hown
      have HB1 := Lib.hid hb1
      clear hown hb1 c0 c1 hgw
      go_wp2_with fail
      go_loopw [6, 27] (fun vo i wr => Hid (Below w.heap.size w wr) ∧ ((i = .int .i64 0 ∧ Hid (wr.ownsRow w.heap.size 28 2 vo 0 [])) ∨ (i = .int .i64 1 ∧ Hid (wr.ownsRow w.heap.size 28 2 vo l.length (l.flatMap Rl.cells))) ∨ (i = .int .i64 2 ∧ Hid (wr.ownsRow w.heap.size 28 2 vo (l.length + m.length) ((l ++ m).flatMap Rl.cells))))) (fun _ i _ => 2 - (intOf i).toNat)
      case atStart => exact ⟨HB1, .inl ⟨rfl, HO⟩⟩
      case round =>
        obtain ⟨HBR, ⟨rfl, HOR⟩ | ⟨rfl, HOR⟩ | ⟨rfl, HOR⟩⟩ := hrel
        · have hbk := HG.out.below HBR.out
          have c0 : wr.cell? ⟨g, 0, none⟩ = some (.slice ao l.length ac) := (hbk.1 0).trans rfl
          have hgw : g < wr.heap.size := hbk.2.2
          obtain ⟨xo, xc, rfl⟩ := own_form HOR.out
          clear hbk
          go_wp2_with (at_builtin; refine halt_ ?_)
          unfold Halt_
          refine app_row Tryz.underlying23 rl_info' rfl (by decide) (by decide) rfl _ _ rfl w.heap.size rfl HOR.out rfl (HA.out.below HBR.out) (rls_one _) (by omega) HBR.out.size ?_
          intro a' cap' w3 hown' hgrow
          have HO3 := Lib.hid (show w3.ownsRow w.heap.size 28 2 (.slice a' l.length cap') l.length (l.flatMap Rl.cells) by simpa using hown')
          have HB3 := Lib.hid (below_own HBR.out HOR.out hgrow HBR.out.size (Nat.le_refl _))
          clear hown' hgrow
          go_wp2_with fail
          exact ⟨⟨HB3, .inr (.inl ⟨rfl, HO3⟩)⟩, by simp [intOf]⟩
        · have hbk := HG.out.below HBR.out
          have c1 : wr.cell? ⟨g, 1, none⟩ = some (.slice bo m.length bc) := (hbk.1 1).trans rfl
          have hgw : g < wr.heap.size := hbk.2.2
          obtain ⟨xo, xc, rfl⟩ := own_form HOR.out
          clear hbk
          go_wp2_with (at_builtin; refine halt_ ?_)
          unfold Halt_
          refine app_row Tryz.underlying23 rl_info' rfl (by decide) (by decide) rfl _ _ rfl w.heap.size rfl HOR.out rfl (HB.out.below HBR.out) (rls_one _) (by omega) HBR.out.size ?_
          intro a' cap' w3 hown' hgrow
          have HO3 := Lib.hid (show w3.ownsRow w.heap.size 28 2 (.slice a' (l.length + m.length) cap') (l.length + m.length) ((l ++ m).flatMap Rl.cells) by rw [rl_flat]; exact hown')
          have HB3 := Lib.hid (below_own HBR.out HOR.out hgrow HBR.out.size (Nat.le_refl _))
          clear hown' hgrow
          go_wp2_with fail
          exact ⟨⟨HB3, .inr (.inr ⟨rfl, HO3⟩)⟩, by simp [intOf]⟩
        · obtain ⟨xo, xc, rfl⟩ := own_form HOR.out
          have HS := Lib.hid (Sl.of_own HOR.out)
          go_wp2_with fail
          go_ret
          exact ⟨_, rfl, by rw [List.length_append]; exact HS.out, HBR.out⟩
end Go.Proofs.YtcmdhfccdkjenaaGreatDoor
namespace Go.Proofs.YtcmdhfccdkjenaaGreatDoor
open Go.RowKit Go.Shelf

/-- The first i cells of a row that DeleteFunc works on are those of its first j that stay; the rest is as it was. -/
structure HalfF (w : World) (b o : Nat) (l : List Rl) (np : Rl → Bool) (j i : Nat) : Prop where
  len : ((l.take j).filter np).length = i
  low : ∀ k (hk : k < ((l.take j).filter np).length), Two w b (o + k * 2) ((l.take j).filter np)[k]
  high : ∀ k (hk : k < l.length), j ≤ k → Two w b (o + k * 2) l[k]
  all : ∀ k, k < l.length → ∃ s0, Two w b (o + k * 2) s0
theorem HalfF.move {w w' : World} {b o j i : Nat} {l : List Rl} {np : Rl → Bool} (h : HalfF w b o l np j i) (hw : ∀ i, w'.cell? ⟨b, i, none⟩ = w.cell? ⟨b, i, none⟩) : HalfF w' b o l np j i :=
  ⟨h.len, fun k hk => (h.low k hk).drop1 (fun _ _ _ => hw _), fun k hk hj => (h.high k hk hj).drop1 (fun _ _ _ => hw _), fun k hk => (h.all k hk).elim fun s0 h0 => ⟨s0, h0.drop1 (fun _ _ _ => hw _)⟩⟩
theorem HalfF.skip {w : World} {b o j i : Nat} {l : List Rl} {np : Rl → Bool} (h : HalfF w b o l np j i) (hj : j < l.length) (e : np l[j] = false) : HalfF w b o l np (j + 1) i := by
  have hd := filter_noR hj e
  exact ⟨by rw [hd]; exact h.len, fun k hk => by simp only [hd]; exact h.low k (by rw [← hd]; exact hk), fun k hk hjk => h.high k hk (by omega), h.all⟩
theorem HalfF.put {w : World} {b o j i : Nat} {l : List Rl} {np : Rl → Bool} (h : HalfF w b o l np j i) (hj : j < l.length) (hij : i ≤ j) (e : np l[j] = true) : HalfF (W2 w b (o + i * 2) l[j]) b o l np (j + 1) (i + 1) := by
  have hd := filter_yesR hj e
  refine ⟨by rw [hd, List.length_append, h.len]; rfl, fun k hk => ?_, fun k hk hjk => ?_, fun k hk => ?_⟩
  · rw [hd, List.length_append, h.len] at hk
    simp only [List.length_cons, List.length_nil] at hk
    by_cases hik : k < i
    · have e1 : ((l.take (j + 1)).filter np)[k]'(by rw [hd, List.length_append, h.len]; simp; omega) = ((l.take j).filter np)[k]'(by rw [h.len]; exact hik) := by
        simp only [hd]; rw [List.getElem_append_left]
      rw [e1]
      exact (h.low k (by rw [h.len]; exact hik)).drop1 (fun _ _ _ => w2_far _ _ _ _ _ (by omega))
    · obtain rfl : k = i := by omega
      have e1 : ((l.take (j + 1)).filter np)[k]'(by rw [hd, List.length_append, h.len]; simp) = l[j] := by
        simp only [hd]; rw [List.getElem_append_right (by rw [h.len]; exact Nat.le_refl _)]; simp [h.len]
      rw [e1]
      obtain ⟨s0, h0⟩ := h.all k (by omega)
      exact w2_new _ _ h0
  · exact (h.high k hk (by omega)).drop1 (fun _ _ _ => w2_far _ _ _ _ _ (by omega))
  · obtain ⟨s0, h0⟩ := h.all k hk
    by_cases hik : k = i
    · subst hik; exact ⟨_, w2_new _ _ h0⟩
    · exact ⟨s0, h0.drop1 (fun _ _ _ => w2_far _ _ _ _ _ (by omega))⟩
theorem HalfF.start {w : World} {b o k : Nat} {l : List Rl} {np : Rl → Bool} (hx : ∀ j u, (l.flatMap Rl.cells)[j]? = some u → w.cell? ⟨b, o + j, none⟩ = some u) (hk : k < l.length) (h0 : np l[k] = false) (h1 : ∀ j (hj : j < l.length), j < k → np l[j] = true) : HalfF w b o l np (k + 1) k := by
  have hd : (l.take (k + 1)).filter np = l.take k := by
    rw [filter_noR hk h0, List.filter_eq_self]
    intro x hx
    obtain ⟨j, hj, rfl⟩ := List.getElem_of_mem hx
    rw [List.getElem_take]
    rw [List.length_take] at hj
    exact h1 j (by omega) (by omega)
  refine ⟨by rw [hd, List.length_take]; omega, fun i hi => ?_, fun i hi _ => rl_cell (w := w) hx i hi, fun i hi => ⟨_, rl_cell (w := w) hx i hi⟩⟩
  have hi' : i < l.length := by rw [hd, List.length_take] at hi; omega
  have e : ((l.take (k + 1)).filter np)[i] = l[i] := by simp only [hd, List.getElem_take]
  rw [e]
  exact rl_cell (w := w) hx i hi'
theorem HalfF.done {w : World} {b o j i : Nat} {l : List Rl} {np : Rl → Bool} (h : HalfF w b o l np j i) (hj : j = l.length) : (l.filter np).length = i ∧ ∀ k (hk : k < (l.filter np).length), Two w b (o + k * 2) (l.filter np)[k] := by
  subst hj
  obtain ⟨h1, h2, _, _⟩ := h
  simp only [List.take_of_length_le (Nat.le_refl _)] at h1 h2
  exact ⟨h1, h2⟩
theorem HalfF.some {w : World} {b o j i : Nat} {l : List Rl} {np : Rl → Bool} (h : HalfF w b o l np j i) (hi : i ≤ l.length) : ∀ k, k < (l.length - i) * 2 → (w.cell? ⟨b, o + i * 2 + k, none⟩).isSome = true := by
  intro k hk
  obtain ⟨s0, h0⟩ := h.all (i + k / 2) (by omega)
  have := two_someR h0 (k % 2) (Nat.mod_lt _ (by decide))
  rwa [show o + (i + k / 2) * 2 + k % 2 = o + i * 2 + k by omega] at this
end Go.Proofs.YtcmdhfccdkjenaaGreatDoor
namespace Go.Proofs.YtcmdhfccdkjenaaGreatDoor
open Go.RowKit Go.Shelf

end Go.Proofs.YtcmdhfccdkjenaaGreatDoor
namespace Go.Proofs.YtcmdhfccdkjenaaGreatDoor
open Go.RowKit Go.Shelf

theorem ref3_SameB (va vb : Value) (l m : List St) (w : World) (ha : SlA w 9 va l.length (l.flatMap St.cells)) (hb : SlA w 9 vb m.length (m.flatMap St.cells)) :
    Calls Tryz.prog 35 #[va, vb] w fun e w' => e = .returned (.bool (decide (l = m))) ∧ Below w.heap.size w w' :=
  (ref3_Same va vb l m w ha hb).mono fun e w' ⟨he, n, hn⟩ => ⟨he, by rw [hn]; exact below_of_drewN n⟩
end Go.Proofs.YtcmdhfccdkjenaaGreatDoor
namespace Go.Proofs.YtcmdhfccdkjenaaGreatDoor
open Go.RowKit Go.Shelf

def minusS (l m : List St) : List St := ord (l.filter fun x => !hasS m x)
end Go.Proofs.YtcmdhfccdkjenaaGreatDoor
namespace Go.Proofs.YtcmdhfccdkjenaaGreatDoor
open Go.RowKit Go.Shelf

/-- How two policies differ. -/
structure Dl where
  more : List St
  gone : List St
  grow : List Rl
  ungrow : List Rl
  shrink : List Rl
  unshrink : List Rl
/-- Roles that aren't among others, in order; roles and others, in order. -/
def outR (a b : List Rl) : List Rl := (ordR a).filter fun x => !hasR b x
def withR (a b : List Rl) : List Rl := ordR (a ++ b)
def Dl.of (l1 : List St) (g1 h1 : List Rl) (l2 : List St) (g2 h2 : List Rl) : Dl := ⟨minusS l2 l1, minusS l1 l2, outR g2 g1, outR g1 g2, outR h2 h1, outR h1 h2⟩
def Dl.back (d : Dl) : Dl := ⟨d.gone, d.more, d.ungrow, d.grow, d.unshrink, d.shrink⟩
def Dl.grows (d : Dl) (g : List Rl) : List Rl := withR (outR g d.ungrow) d.grow
/-- The six slices of a difference in a world. -/
structure DlAt (w : World) (v0 v1 v2 v3 v4 v5 : Value) (d : Dl) : Prop where
  a0 : SlA w 9 v0 d.more.length (d.more.flatMap St.cells)
  a1 : SlA w 9 v1 d.gone.length (d.gone.flatMap St.cells)
  a2 : SlA w 2 v2 d.grow.length (d.grow.flatMap Rl.cells)
  a3 : SlA w 2 v3 d.ungrow.length (d.ungrow.flatMap Rl.cells)
  a4 : SlA w 2 v4 d.shrink.length (d.shrink.flatMap Rl.cells)
  a5 : SlA w 2 v5 d.unshrink.length (d.unshrink.flatMap Rl.cells)
theorem DlAt.below {w w' : World} {v0 v1 v2 v3 v4 v5 : Value} {d : Dl} (h : DlAt w v0 v1 v2 v3 v4 v5 d) (hb : Below w.heap.size w w') : DlAt w' v0 v1 v2 v3 v4 v5 d :=
  ⟨h.a0.below hb, h.a1.below hb, h.a2.below hb, h.a3.below hb, h.a4.below hb, h.a5.below hb⟩
theorem DlAt.back {w : World} {v0 v1 v2 v3 v4 v5 : Value} {d : Dl} (h : DlAt w v0 v1 v2 v3 v4 v5 d) : DlAt w v1 v0 v3 v2 v5 v4 d.back := ⟨h.a1, h.a0, h.a3, h.a2, h.a5, h.a4⟩
/-- A difference's value. -/
abbrev dv (v0 v1 v2 v3 v4 v5 : Value) : Value := .agg #[v0, v1, v2, v3, v4, v5]
/-- A value is a difference in a world. -/
def DlV (w : World) (v : Value) (d : Dl) : Prop := ∃ v0 v1 v2 v3 v4 v5, v = dv v0 v1 v2 v3 v4 v5 ∧ DlAt w v0 v1 v2 v3 v4 v5 d
theorem DlV.below {w w' : World} {v : Value} {d : Dl} (h : DlV w v d) (hb : Below w.heap.size w w') : DlV w' v d := by
  obtain ⟨v0, v1, v2, v3, v4, v5, rfl, h⟩ := h
  exact ⟨v0, v1, v2, v3, v4, v5, rfl, h.below hb⟩
/-- Each row of a difference is short, and so are its texts. -/
structure Dl.le (d : Dl) (n m : Nat) : Prop where
  n0 : d.more.length ≤ n
  n1 : d.gone.length ≤ n
  n2 : d.grow.length ≤ n
  n3 : d.ungrow.length ≤ n
  n4 : d.shrink.length ≤ n
  n5 : d.unshrink.length ≤ n
  t0 : allLe d.more m
  t1 : allLe d.gone m
  t2 : ∀ x ∈ d.grow, x.le m
  t3 : ∀ x ∈ d.ungrow, x.le m
  t4 : ∀ x ∈ d.shrink, x.le m
  t5 : ∀ x ∈ d.unshrink, x.le m
end Go.Proofs.YtcmdhfccdkjenaaGreatDoor
namespace Go.Proofs.YtcmdhfccdkjenaaGreatDoor
open Go.RowKit Go.Shelf

/-- A difference has no rows. -/
def Dl.none (d : Dl) : Bool := decide (d.more.length + d.gone.length + d.grow.length + d.ungrow.length + d.shrink.length + d.unshrink.length = 0)
end Go.Proofs.YtcmdhfccdkjenaaGreatDoor
namespace Go.Proofs.YtcmdhfccdkjenaaGreatDoor
open Go.RowKit Go.Shelf

theorem TwoAt.new (w : World) (A B : Array Value) (t u : TypeId) : TwoAt w A B ((w.alloc (.cells A t)).alloc (.cells B u)) :=
  ⟨(Blk.new w A t).alloc _, by have := Blk.new (w.alloc (.cells A t)) B u; simpa using this, ((Below.refl _ _).alloc (Nat.le_refl _) _).alloc (by simp) _⟩
end Go.Proofs.YtcmdhfccdkjenaaGreatDoor
namespace Go.Proofs.YtcmdhfccdkjenaaGreatDoor
open Go.RowKit Go.Shelf

set_option maxRecDepth 100000 in
set_option maxHeartbeats 1000000 in
theorem ref1_SameT (va vb : Value) (l : List ByteArray) (w : World) (ha : SlA w 1 va l.length (strs l)) (hb : SlA w 1 vb l.length (strs l)) :
    Calls Tryz.prog 79 #[va, vb] w fun e w' => e = .returned (.bool true) ∧ ∃ n, w' = w.drewN n := by
  have hmax := ha.max
  have hne : ((l.length : Int) != (l.length : Int)) = false := by simp
  by_cases h0 : 0 < l.length
  · obtain ⟨b1, o1, c1, rfl, hc1, hm1, _, hx1⟩ := ha.pos h0
    obtain ⟨b2, o2, c2, rfl, hc2, hm2, _, hx2⟩ := hb.pos h0
    have HX1 := Lib.hid hx1
    have HX2 := Lib.hid hx2
    clear ha hb hx1 hx2
    go_enter Tryz.func79, Tryz.ntmps79
    go_wp2
    go_loopw [13] (fun i wr => ∃ k n : Nat, k ≤ l.length ∧ i = .int .i64 k ∧ wr = w.drewN n) (fun i _ => l.length - (intOf i).toNat)
    case atStart => exact ⟨0, 0, by omega, rfl, rfl⟩
    case round =>
      obtain ⟨k, n, hk, rfl, rfl⟩ := hrel
      by_cases hlt : k < l.length
      · have p0 := HX1.out k _ (strs_get hlt)
        have q0 := HX2.out k _ (strs_get hlt)
        go_wp2_with fail
        go_quiet (fail)
        go_wp2
        exact ⟨⟨k + 1, n + nq, by omega, by go_num, rfl⟩, by simp [intOf]; omega⟩
      · go_wp2
        go_ret
        exact ⟨rfl, n, rfl⟩
  · obtain ⟨a1, c1, rfl⟩ := ha.form
    obtain ⟨a2, c2, rfl⟩ := hb.form
    obtain rfl : l = [] := List.eq_nil_of_length_eq_zero (by omega)
    clear ha hb h0 hmax
    go_enter Tryz.func79, Tryz.ntmps79
    go_wp2
    go_loopw [13] (fun i wr => i = .int .i64 0 ∧ wr = w) (fun _ _ => 0)
    case atStart => exact ⟨rfl, rfl⟩
    case round =>
      obtain ⟨rfl, rfl⟩ := hrel
      go_wp2
      go_ret
      exact ⟨rfl, 0, rfl⟩
theorem ref1_SameB (va vb : Value) (l : List ByteArray) (w : World) (ha : SlA w 1 va l.length (strs l)) (hb : SlA w 1 vb l.length (strs l)) :
    Calls Tryz.prog 79 #[va, vb] w fun e w' => e = .returned (.bool true) ∧ Below w.heap.size w w' :=
  (ref1_SameT va vb l w ha hb).mono fun e w' ⟨he, n, hn⟩ => ⟨he, by rw [hn]; exact below_of_drewN n⟩
end Go.Proofs.YtcmdhfccdkjenaaGreatDoor
