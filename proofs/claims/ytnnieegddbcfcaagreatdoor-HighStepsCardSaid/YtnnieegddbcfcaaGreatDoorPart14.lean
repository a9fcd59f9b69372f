/- crupperref05.SortRoles: the rows of roles in order that it makes (printed by gen_rlsort.py out of RefSort). crupperref03.SameRoles: whether two rows of roles are one. Plain laws of rows of roles in order (printed by gen_rlall.py out of OrdLaw, RefSort, StFns). Package state: Reaches; the reference's MayCome and Reaches. crupperref10.Of. The statement StateRows: the walk of the law. crupperref05.Right: some bool comes back; if it is true, all statements may be. -/
import Derived.Test.YtnnieegddbcfcaaGreatDoorPart13
import Derived.Test.YtnnieegddbcfcaaGreatDoorPart5
import Derived.Deep.RegionLawGrows
import Derived.Test.YtnnieegddbcfcaaGreatDoorPart3
import Derived.Test.YtnnieegddbcfcaaGreatDoorPart6
namespace Go.Proofs.YtnnieegddbcfcaaGreatDoor
open Go.RowKit Go.Shelf
/-- The place of a statement in a row in order. -/
def posSR : List Rl → Rl → Nat
  | [], _ => 0
  | a :: r, x => if cmpR a x < 0 then posSR r x + 1 else 0
def insAtR (l : List Rl) (x : Rl) (k : Nat) : List Rl := l.take k ++ x :: l.drop k
def insSR (l : List Rl) (x : Rl) : List Rl := if hasR l x then l else insAtR l x (posSR l x)
def insAllR : List Rl → List Rl → List Rl
  | acc, [] => acc
  | acc, x :: l => insAllR (insSR acc x) l
theorem pos_leR : ∀ (l : List Rl) (x : Rl), posSR l x ≤ l.length
  | [], _ => Nat.le_refl _
  | a :: r, x => by unfold posSR; have := pos_leR r x; split <;> simp <;> omega
theorem pos_ofR : ∀ (l : List Rl) (x : Rl) (k : Nat), k ≤ l.length → (∀ j (hj : j < l.length), j < k → cmpR l[j] x < 0) → (∀ hk : k < l.length, ¬ cmpR l[k] x < 0) → posSR l x = k
  | [], x, k, hk, _, _ => by simp at hk; subst hk; rfl
  | a :: r, x, 0, _, _, h => by
    have h' : ¬ cmpR a x < 0 := h (by simp)
    unfold posSR; rw [if_neg h']
  | a :: r, x, k + 1, hk, h1, h2 => by
    have h' : cmpR a x < 0 := h1 0 (by simp) (by omega)
    unfold posSR
    rw [if_pos h', pos_ofR r x k (by simpa using hk) (fun j hj hjk => h1 (j + 1) (by simp; omega) (by omega)) (fun hk' => h2 (by simp; omega))]
theorem insS_lenR (l : List Rl) (x : Rl) : (insSR l x).length ≤ l.length + 1 := by
  unfold insSR insAtR; split
  · omega
  · simp [List.length_take, List.length_drop]; have := pos_leR l x; omega
theorem insAll_stepR (acc l : List Rl) (k : Nat) (hk : k < l.length) : insAllR acc (l.drop k) = insAllR (insSR acc l[k]) (l.drop (k + 1)) := by
  rw [List.drop_eq_getElem_cons hk]; rfl
theorem insAll_endR (acc l : List Rl) (k : Nat) (hk : ¬ k < l.length) : insAllR acc (l.drop k) = acc := by
  rw [List.drop_eq_nil_of_le (by omega)]; rfl
theorem insS_hasR {l : List Rl} {x : Rl} (h : hasR l x = true) : insSR l x = l := if_pos h
theorem insS_notR {l : List Rl} {x : Rl} (h : hasR l x = false) : insSR l x = insAtR l x (posSR l x) := if_neg (by rw [h]; exact Bool.false_ne_true)

theorem flat_dropR (l : List Rl) (j : Nat) (hj : j ≤ l.length) (i : Nat) : ((l.drop j).flatMap Rl.cells)[i]? = (l.flatMap Rl.cells)[j * 2 + i]? := by
  have h := List.take_append_drop j l
  have e : (l.flatMap Rl.cells) = (l.take j).flatMap Rl.cells ++ (l.drop j).flatMap Rl.cells := by rw [← List.flatMap_append, h]
  have hl : ((l.take j).flatMap Rl.cells).length = j * 2 := by rw [flat_len _ 2 Rl.cells_len, List.length_take]; congr 1; omega
  rw [e, List.getElem?_append_right (by omega), hl]
  congr 1; omega
theorem flat_takeR (l : List Rl) (j : Nat) (i : Nat) (u : Value) (h : ((l.take j).flatMap Rl.cells)[i]? = some u) : (l.flatMap Rl.cells)[i]? = some u := by
  have e : (l.flatMap Rl.cells) = (l.take j).flatMap Rl.cells ++ (l.drop j).flatMap Rl.cells := by rw [← List.flatMap_append, List.take_append_drop]
  rw [e]
  have hi := (List.getElem?_eq_some_iff.1 h).1
  rw [List.getElem?_append_left hi]; exact h
theorem take_len9R (l : List Rl) (j : Nat) (hj : j ≤ l.length) : ((l.take j).flatMap Rl.cells).length = j * 2 := by
  rw [flat_len _ 2 Rl.cells_len, List.length_take]; congr 1; omega
theorem drop_len9R (l : List Rl) (j : Nat) : ((l.drop j).flatMap Rl.cells).length = (l.length - j) * 2 := by
  rw [flat_len _ 2 Rl.cells_len, List.length_drop]
theorem sl_appR {l : List Rl} {x : Rl} {j : Nat} (_ : j ≤ l.length) : (l.take j).flatMap Rl.cells ++ x.cells ++ (l.drop j).flatMap Rl.cells = (insAtR l x j).flatMap Rl.cells := by
  unfold insAtR; rw [List.flatMap_append, List.flatMap_cons, List.append_assoc]
theorem insAt_lenR {l : List Rl} {x : Rl} {j : Nat} (hj : j ≤ l.length) : (insAtR l x j).length = j + 1 + (l.length - j) := by
  unfold insAtR; rw [List.length_append, List.length_cons, List.length_take, List.length_drop]; omega
theorem app_endR {l : List Rl} {x : Rl} : l.flatMap Rl.cells ++ x.cells = (insAtR l x l.length).flatMap Rl.cells := by
  have h := sl_appR (l := l) (x := x) (j := l.length) (Nat.le_refl _)
  rw [List.take_of_length_le (Nat.le_refl _), List.drop_of_length_le (Nat.le_refl _)] at h
  rw [← h]; simp
theorem insAt_endR {l : List Rl} {x : Rl} : (insAtR l x l.length).length = l.length + 1 := by rw [insAt_lenR (Nat.le_refl _)]; omega
abbrev Two (w : World) (b o : Nat) (s : Rl) : Prop := w.cell? ⟨b, o, none⟩ = some (.string s.o) ∧ w.cell? ⟨b, o + 1, none⟩ = some (.string s.n)
theorem ref3_LessD (x y : Rl) (w : World) : Calls Tryz.prog 108 #[rv x, rv y] w fun e w' => e = .returned (.bool (decide (cmpR x y < 0))) ∧ Below w.heap.size w w' := ref3_Less x y w
theorem Two.below {w w' : World} {b o : Nat} {s : Rl} (h : Two w b o s) (hb : b < w.heap.size) (hw : Below w.heap.size w w') : Two w' b o s := by
  have k : ∀ i, w'.cell? ⟨b, i, none⟩ = w.cell? ⟨b, i, none⟩ := fun i => hw.cell (p := ⟨b, i, none⟩) hb
  obtain ⟨h0, h1⟩ := h
  exact ⟨(k _).trans h0, (k _).trans h1⟩
set_option maxRecDepth 100000 in
set_option maxHeartbeats 8000000 in
theorem ref5_Sort (va : Value) (l : List Rl) (w : World) (ha : SlA w 2 va l.length (l.flatMap Rl.cells)) (hl : l.length ≤ 1000) :
    Calls Tryz.prog 49 #[va] w fun e w' => ∃ v, e = .returned v ∧ Sl w' 2 v (insAllR [] l).length ((insAllR [] l).flatMap Rl.cells) ∧ Below w.heap.size w w' := by
  by_cases h0 : 0 < l.length
  · obtain ⟨b1, o1, c1, rfl, hc1, hm1, hb1, hx1⟩ := ha.pos h0
    have HX1 := Lib.hid hx1
    clear ha hx1
    go_enter Tryz.func49, Tryz.ntmps49
    go_wp2
    go_loopw [3, 10] (fun vo i wr => ∃ (k : Nat) (acc : List Rl), k ≤ l.length ∧ acc.length ≤ k ∧ i = .int .i64 k ∧ Below w.heap.size w wr ∧ Sl wr 2 vo acc.length (acc.flatMap Rl.cells) ∧ Hid (insAllR [] l = insAllR acc (l.drop k))) (fun _ i _ => l.length - (intOf i).toNat)
    case atStart => exact ⟨0, [], by omega, by simp, rfl, Below.refl _ _, Sl.nil _ _, Lib.hid (by simp)⟩
    case round =>
      obtain ⟨k, acc, hk, hak, rfl, hbw, hso, HI⟩ := hrel
      have HBW := Lib.hid hbw
      have HSO := Lib.hid hso
      have hz := hbw.size
      by_cases hlt : k < l.length
      · obtain ⟨p0, p1⟩ := rl_cell (w := wr) (fun j u hu => (hbw.cell (p := ⟨b1, o1 + j, none⟩) hb1).trans (HX1.out j u hu)) k hlt
        have hbr : b1 < wr.heap.size := Nat.lt_of_lt_of_le hb1 hz
        have HST := Lib.hid (HI.out.trans (insAll_stepR acc l k hlt))
        have hx : l[k] = ⟨l[k].o, l[k].n⟩ := rfl
        generalize l[k].o = x1 at *
        generalize l[k].n = x2 at *
        rw [hx] at HST
        clear hx hbw hso HI
        obtain ⟨ao, co, rfl⟩ := HSO.out.form
        go_wp2_with fail
        have HX := Lib.hid (Blk.new wr #[.string x1, .string x2] 28)
        have HS2 := Lib.hid (HSO.out.below ((Below.refl wr.heap.size wr).alloc (Nat.le_refl _) (.cells #[.string x1, .string x2] 28)))
        refine (ref5_Has _ acc ⟨x1, x2⟩ _ HS2.out.a).mono ?_
        rintro e w2 ⟨rfl, hb2⟩
        have HX2 := Lib.hid (HX.out.below hb2)
        have HS3 := Lib.hid (HS2.out.below hb2)
        have HB2 := Lib.hid ((HBW.out.alloc HBW.out.size _).trans (hb2.mono (Nat.le_trans HBW.out.size (by simp))))
        have hz2 := HB2.out.size
        clear hb2 HX HS2 HSO p0 p1
        cases hh : hasR acc ⟨x1, x2⟩ with
        | true =>
          have HE := Lib.hid (HST.out.trans (by rw [insS_hasR hh]))
          clear hh
          go_wp2_with fail
          exact ⟨⟨k + 1, acc, by omega, by omega, by go_num, HB2.out, HS3.out, HE⟩, by simp [intOf]; omega⟩
        | false =>
          have HE := Lib.hid (HST.out.trans (by rw [insS_notR hh]))
          clear hh HST
          obtain ⟨g, hg⟩ : ∃ g, wr.heap.size = g := ⟨_, rfl⟩
          rw [hg] at HX2 ⊢
          clear hg hbr HBW hz
          go_wp2_with fail
          go_loopw [6] (fun i wr => ∃ j : Nat, j ≤ acc.length ∧ i = .int .i64 j ∧ Below w2.heap.size w2 wr ∧ Hid (∀ m (hm : m < acc.length), m < j → cmpR acc[m] ⟨x1, x2⟩ < 0)) (fun i _ => acc.length - (intOf i).toNat)
          case atStart => exact ⟨0, by omega, rfl, Below.refl _ _, Lib.hid (fun _ _ h => absurd h (by omega))⟩
          case round =>
            obtain ⟨j, hj, rfl, hbj, HJ⟩ := hrel
            have HBJ := Lib.hid hbj
            by_cases hjl : j < acc.length
            · obtain ⟨b2, o2, c2, he2, hc2, hm2, hb2, hx2⟩ := HS3.out.pos (by omega)
              simp only [Value.slice.injEq, true_and] at he2
              obtain ⟨rfl, rfl⟩ := he2
              obtain ⟨q0, q1⟩ := rl_cell (w := wr) (fun m u hu => (hbj.cell (p := ⟨b2, o2 + m, none⟩) hb2).trans (hx2 m u hu)) j hjl
              have hbj2 : b2 < wr.heap.size := Nat.lt_of_lt_of_le hb2 hbj.size
              have HX3 := HX2.out.below hbj
              have cx := HX3.1
              have HBF := fun W => ref3_LessD acc[j] ⟨x1, x2⟩ W
              have d : decide ((j : Int) < (acc.length : Int)) = true := by (rw [decide_eq_true_iff]; omega)
              have HX4 : Blk wr.drew g #[.string x1, .string x2] := HX3
              have HQ4 : Two wr.drew b2 (o2 + j * 2) acc[j] := ⟨q0, q1⟩
              have HB4 : Below w2.heap.size w2 wr.drew := below_drew hbj
              clear hx2 hbj
              cases hlt' : decide (cmpR acc[j] ⟨x1, x2⟩ < 0) with
              | true =>
                have HN : Hid (∀ m (hm : m < acc.length), m < j + 1 → cmpR acc[m] ⟨x1, x2⟩ < 0) := Lib.hid (fun m hm hmj => by
                  by_cases hmj' : m < j
                  · exact HJ.out m hm hmj'
                  · obtain rfl : m = j := by omega
                    exact of_decide_eq_true hlt')
                rw [hlt'] at HBF
                clear hlt'
                go_wp2_with fail
                go_region_held3 (fun W => (∀ o, W.cell? ⟨g, o, none⟩ = (#[.string x1, .string x2] : Array Value)[o]?) ∧ Two W b2 (o2 + j * 2) acc[j])
                  (first | exact ⟨HX4.1, HQ4⟩ | go_keep)
                  ((go_at_call 108; refine (HBF _).mono ?_; rintro e wq ⟨rfl, hbq⟩; have HQ4 := HQ4.below hbj2 hbq; have HX4 := HX4.below hbq; have HB4 := HB4.trans (hbq.mono HB4.size)))
                go_wp2
                exact ⟨⟨j + 1, by omega, by go_num, HB4, HN⟩, by simp [intOf]; omega⟩
              | false =>
                have HLT := Lib.hid hlt'
                rw [hlt'] at HBF
                clear hlt'
                go_wp2_with fail
                go_region_held3 (fun W => (∀ o, W.cell? ⟨g, o, none⟩ = (#[.string x1, .string x2] : Array Value)[o]?) ∧ Two W b2 (o2 + j * 2) acc[j])
                  (first | exact ⟨HX4.1, HQ4⟩ | go_keep)
                  ((go_at_call 108; refine (HBF _).mono ?_; rintro e wq ⟨rfl, hbq⟩; have HQ4 := HQ4.below hbj2 hbq; have HX4 := HX4.below hbq; have HB4 := HB4.trans (hbq.mono HB4.size)))
                have hsb := (HS3.out.below HB4).pos (by omega)
                obtain ⟨b3, o3, c3, he3, hc3, hm3, hb3, hx3⟩ := hsb
                simp only [Value.slice.injEq, Option.some.injEq, Addr.mk.injEq, true_and, and_true] at he3
                obtain ⟨⟨rfl, rfl⟩, rfl⟩ := he3
                have HSB := Lib.hid hx3
                clear hx3
                go_wp2_with (at_builtin; refine halt_ ?_)
                unfold Halt_
                refine app_grow Tryz.underlying23 rl_info' rfl (by decide) (by decide) rfl _ _ rfl (ao := some ⟨wq.heap.size, 0, none⟩) (n := 0) (cap := 0) (olds := []) rfl (by simp) (by simp) (by simp) (b := b2) (off := o2 + j * 2) (m := acc.length - j) (c := co - j) (news := (acc.drop j).flatMap Rl.cells) rfl ?_ ?_ (rls_one _) (by omega) (by omega) ?_
                · rw [flat_len _ 2 Rl.cells_len, List.length_drop]
                · intro i u hu
                  rw [flat_dropR acc j hj] at hu
                  have := HSB.out _ _ hu
                  rw [← Nat.add_assoc] at this
                  exact (World.cell?_alloc_past _ _ _ hb3).trans this
                intro v5 w5 hown5 hb5
                have hwq : wq.heap.size < (wq.alloc (.cells #[] 28)).heap.size := by simp
                have HX5 : Blk w5 g #[.string x1, .string x2] := (HX4.alloc _).below hb5
                have hh5 : b2 < w5.heap.size := Nat.lt_of_lt_of_le hb3 (Nat.le_trans (Nat.le_of_lt hwq) hb5.size)
                have HS5 : ∀ i u, (acc.flatMap Rl.cells)[i]? = some u → w5.cell? ⟨b2, o2 + i, none⟩ = some u := fun i u hu => (hb5.cell (p := ⟨b2, o2 + i, none⟩) (Nat.lt_trans hb3 hwq)).trans ((World.cell?_alloc_past _ _ _ hb3).trans (HSB.out i u hu))
                have HB5 : Below w2.heap.size w2 w5 := (HB4.alloc HB4.size _).trans (hb5.mono (Nat.le_trans HB4.size (Nat.le_of_lt hwq)))
                simp only [Nat.zero_add, List.nil_append] at hown5
                obtain ⟨g5, c5, rfl, hg5a, hg5b⟩ := hown5.form (show 0 < acc.length - j by omega)
                have HO5 := Lib.hid hown5
                have HB5' := Lib.hid HB5
                obtain ⟨inf, hi, hz0, hz1, hz2⟩ := info_parts rl_info'
                have HINF := Lib.hid hi
                have HX6 : Blk w5.drew g #[.string x1, .string x2] := HX5
                have HSX := Lib.hid (fun i u (hu : (acc.flatMap Rl.cells)[i]? = some u) => show w5.drew.cell? ⟨b2, o2 + i, none⟩ = some u from HS5 i u hu)
                have HOD := Lib.hid (show w5.drew.ownsRow _ _ 2 _ _ _ from hown5)
                have c5x := HX5.1
                have hgb : g < (w5.drew.alloc (.cells #[.string x1, .string x2] 28)).heap.size := Nat.lt_of_lt_of_le HX6.2.2 (((Below.refl _ w5.drew).alloc (Nat.le_refl _) _).size)
                have hi1 : (0 : Int) ≤ (j : Int) := by omega
                have hi2 : (j : Int) ≤ (acc.length : Int) := by omega
                have hi3 : (j : Int) ≤ (co : Int) := by omega
                clear hown5 hb5 HS5 HB5 HX5 HX4 HB4 HQ4 hi HBF hwq hb3 hbq cx HX3 q0 q1 d
                go_wp2_with fail
                go_region_held3 (fun W => ∀ o, W.cell? ⟨g, o, none⟩ = (#[.string x1, .string x2] : Array Value)[o]?)
                  (first | exact HX6.1 | exact (HX6.alloc _).1 | exact HX7.1 | exact HX9.1 | go_keep)
                  (first
                    | (refine step_append_grows rfl _ _ 23 rfl 28 inf _ 2 32 Tryz.underlying23 HINF.out hz0 hz1 hz2 rfl (Nat.le_of_ble_eq_true rfl) (some ⟨b2, o2, none⟩) j j ((acc.take j).flatMap Rl.cells) rfl ?_ (take_len9R acc j hj) ?_ ⟨w5.heap.size, 0, none⟩ 1 1 (Rl.cells ⟨x1, x2⟩) rfl rfl ?_ (rl1 x1 x2) (Nat.lt_succ_self _) ?_ ?_ ?_; (intro h; cases h); (intro b hb i u hu; cases hb; rw [addr_add]; exact (World.cell?_alloc_past _ _ _ hh5).trans (HSX.out i u (flat_takeR acc j i u hu))); exact cells_new _ _ _ _ rfl; (simp only [maxLen]; omega); omega; intro v7 w7 hown7 hg7; have hb7 := below_of_none hg7; have HX7 := (HX6.alloc _).below hb7; have HO7 := own_below (own_below HOD.out ((Below.refl _ _).alloc (Nat.le_refl _) _)) hb7)
                    | (refine step_append_lies _ rfl _ _ 23 rfl _ 28 inf _ 2 32 Tryz.underlying23 HINF.out hz0 hz1 hz2 rfl (Nat.le_of_ble_eq_true rfl) v7 (j + 1) _ rfl hown7 ⟨g5, 0, none⟩ (acc.length - j) c5 ((acc.drop j).flatMap Rl.cells) rfl (drop_len9R acc j) (HO7.cells (g := g5) rfl) (rls_one _) ?_ ?_ ?_ hb7.size _ rfl ?_; omega; (simp only [maxLen]; omega); omega; intro g9 c9 w9 hown9 hg9 hor9 hlt9; have HX9 := HX7.grown hg9 (own_gt_ne hown7 hgb)))
                have HBw5 := HB2.out.trans (HB5'.out.mono HB2.out.size)
                have HBw6 := (below_drew HBw5).alloc (B := w.heap.size) HBw5.size (.cells #[.string x1, .string x2] 28)
                have HBw7 := HBw6.trans (hb7.mono HBw6.size)
                have HB9 := Lib.hid (below_own HBw7 hown7 hg9 HBw7.size HBw6.size)
                have HSL9 := Lib.hid (Sl.of_own hown9)
                have HPS := Lib.hid (pos_ofR acc ⟨x1, x2⟩ j hj HJ.out (fun _ => of_decide_eq_false HLT.out))
                clear hown9 hg9 hown7 hg7 hb7 HX9 HX7 HO7 HBw5 HBw6 HBw7
                go_wp2
                exact ⟨⟨k + 1, insAtR acc ⟨x1, x2⟩ j, by omega, by rw [insAt_lenR hj]; omega, by go_num, HB9.out, by rw [insAt_lenR hj, ← sl_appR hj]; exact HSL9.out, Lib.hid (by rw [HE.out, HPS.out])⟩, by simp [intOf]; omega⟩
            · obtain rfl : j = acc.length := by omega
              have HPS := Lib.hid (pos_ofR acc ⟨x1, x2⟩ acc.length (Nat.le_refl _) HJ.out (fun h => absurd h hjl))
              obtain ⟨inf, hi, hz0, hz1, hz2'⟩ := info_parts rl_info'
              have HINF := Lib.hid hi
              have HX3 := HX2.out.below hbj
              have cx := HX3.1
              have d : decide ((acc.length : Int) < (acc.length : Int)) = false := by (rw [decide_eq_false_iff_not]; omega)
              clear hi hjl hj
              rcases HS3.out.2.2 with ⟨hv, hn0⟩ | ⟨b2, o2, c2, hv, hc2, hm2, hb2, hx2⟩
              · skip
                have hacc : acc = [] := List.eq_nil_of_length_eq_zero hn0
                simp only [Value.slice.injEq] at hv
                obtain ⟨rfl, -, rfl⟩ := hv
                simp only [hn0]
                clear d
                clear hbj
                go_wp2_with fail
                go_big_quiet (fail)
                go_wp2_with (at_builtin; refine halt_ ?_)
                unfold Halt_
                refine app_zero _ rfl _ _ 23 rfl 28 inf Tryz.underlying23 HINF.out (some ⟨wr.heap.size, 0, none⟩) 0 0 (Nat.le_refl _) rfl _ _ rfl ?_
                obtain ⟨w5, hw5⟩ : ∃ w5, w5 = (wr.drewN nq).alloc (.cells #[] 28) := ⟨_, rfl⟩
                have hb5 : Below wr.heap.size wr w5 := by rw [hw5]; exact (below_drewN (Below.refl _ _) _).alloc (Nat.le_refl _) _
                have hh0 : wr.heap.size ≤ w5.heap.size := hb5.size
                rw [← hw5]
                have HX5 : Blk w5 g #[.string x1, .string x2] := HX3.below hb5
                have HB5' := Lib.hid (HBJ.out.trans (hb5.mono HBJ.out.size))
                have HX6 : Blk w5.drew g #[.string x1, .string x2] := HX5
                have c5x := HX5.1
                have hgb : g < (w5.drew.alloc (.cells #[.string x1, .string x2] 28)).heap.size := Nat.lt_of_lt_of_le HX6.2.2 (((Below.refl _ w5.drew).alloc (Nat.le_refl _) _).size)
                clear hw5 hb5 HX5 HX3 cx
                go_wp2_with fail
                go_region_held3 (fun W => ∀ o, W.cell? ⟨g, o, none⟩ = (#[.string x1, .string x2] : Array Value)[o]?)
                  (first | exact HX6.1 | exact (HX6.alloc _).1 | exact HX7.1 | go_keep)
                  (first
                    | (refine step_append_grows rfl _ _ 23 rfl 28 inf _ 2 32 Tryz.underlying23 HINF.out hz0 hz1 hz2' rfl (Nat.le_of_ble_eq_true rfl) none 0 0 [] rfl ?_ rfl ?_ ⟨w5.heap.size, 0, none⟩ 1 1 (Rl.cells ⟨x1, x2⟩) rfl rfl ?_ (rl1 x1 x2) (Nat.lt_succ_self _) ?_ ?_ ?_; (intro _; exact ⟨rfl, rfl⟩); (intro b hb; cases hb); exact cells_new _ _ _ _ rfl; (simp only [maxLen]; omega); omega; intro v7 w7 hown7 hg7; obtain ⟨a7, c7, rfl, hc7⟩ := own_form2 hown7; have hb7 := below_of_none hg7; have HX7 := (HX6.alloc _).below hb7)
                    | (refine step_zero _ rfl _ _ 23 rfl 28 inf Tryz.underlying23 HINF.out _ _ c7 hc7 rfl _ _ rfl ?_))
                have HBw5 := HB2.out.trans (HB5'.out.mono HB2.out.size)
                have HBw6 := (below_drew HBw5).alloc (B := w.heap.size) HBw5.size (.cells #[.string x1, .string x2] 28)
                have HB9 := Lib.hid (HBw6.trans (hb7.mono HBw6.size))
                have HSL9 := Lib.hid (Sl.of_own hown7)
                clear hg7 hb7 hown7 HX7 HBw5 HBw6
                go_wp2
                exact ⟨⟨k + 1, insAtR acc ⟨x1, x2⟩ acc.length, by omega, by rw [insAt_endR]; omega, by go_num, HB9.out, by rw [insAt_endR, ← app_endR, hacc]; exact HSL9.out, Lib.hid (by rw [HE.out, HPS.out])⟩, by simp [intOf]; omega⟩
              · simp only [Value.slice.injEq, true_and] at hv
                obtain ⟨rfl, rfl⟩ := hv
                by_cases hco : co = acc.length
                · skip
                  subst hco
                  clear hbj
                  go_wp2_with fail
                  go_big_quiet (fail)
                  go_wp2_with (at_builtin; refine halt_ ?_)
                  unfold Halt_
                  refine app_zero _ rfl _ _ 23 rfl 28 inf Tryz.underlying23 HINF.out (some ⟨wr.heap.size, 0, none⟩) 0 0 (Nat.le_refl _) rfl _ _ rfl ?_
                  obtain ⟨w5, hw5⟩ : ∃ w5, w5 = (wr.drewN nq).alloc (.cells #[] 28) := ⟨_, rfl⟩
                  have hb5 : Below wr.heap.size wr w5 := by rw [hw5]; exact (below_drewN (Below.refl _ _) _).alloc (Nat.le_refl _) _
                  have hh0 : wr.heap.size ≤ w5.heap.size := hb5.size
                  rw [← hw5]
                  have HX5 : Blk w5 g #[.string x1, .string x2] := HX3.below hb5
                  have HB5' := Lib.hid (HBJ.out.trans (hb5.mono HBJ.out.size))
                  have hh5 : b2 < w5.heap.size := Nat.lt_of_lt_of_le hb2 HB5'.out.size
                  have HSX := Lib.hid (fun i u (hu : (acc.flatMap Rl.cells)[i]? = some u) => show w5.drew.cell? ⟨b2, o2 + i, none⟩ = some u from (HB5'.out.cell (p := ⟨b2, o2 + i, none⟩) hb2).trans (hx2 i u hu))
                  have hi1 : (0 : Int) ≤ (acc.length : Int) := by omega
                  have hi3 : (acc.length : Int) ≤ (acc.length : Int) := by omega
                  have HX6 : Blk w5.drew g #[.string x1, .string x2] := HX5
                  have c5x := HX5.1
                  have hgb : g < (w5.drew.alloc (.cells #[.string x1, .string x2] 28)).heap.size := Nat.lt_of_lt_of_le HX6.2.2 (((Below.refl _ w5.drew).alloc (Nat.le_refl _) _).size)
                  clear hw5 hb5 HX5 HX3 cx hx2
                  go_wp2_with fail
                  go_region_held3 (fun W => ∀ o, W.cell? ⟨g, o, none⟩ = (#[.string x1, .string x2] : Array Value)[o]?)
                    (first | exact HX6.1 | exact (HX6.alloc _).1 | exact HX7.1 | go_keep)
                    (first
                      | (refine step_append_grows rfl _ _ 23 rfl 28 inf _ 2 32 Tryz.underlying23 HINF.out hz0 hz1 hz2' rfl (Nat.le_of_ble_eq_true rfl) (some ⟨b2, o2, none⟩) acc.length acc.length (acc.flatMap Rl.cells) rfl ?_ (flat_len _ 2 Rl.cells_len acc) ?_ ⟨w5.heap.size, 0, none⟩ 1 1 (Rl.cells ⟨x1, x2⟩) rfl rfl ?_ (rl1 x1 x2) (Nat.lt_succ_self _) ?_ ?_ ?_; (intro h; cases h); (intro b hb i u hu; cases hb; rw [addr_add]; exact (World.cell?_alloc_past _ _ _ hh5).trans (HSX.out i u hu)); exact cells_new _ _ _ _ rfl; (simp only [maxLen]; omega); omega; intro v7 w7 hown7 hg7; obtain ⟨a7, c7, rfl, hc7⟩ := own_form2 hown7; have hb7 := below_of_none hg7; have HX7 := (HX6.alloc _).below hb7)
                      | (refine step_zero _ rfl _ _ 23 rfl 28 inf Tryz.underlying23 HINF.out _ _ c7 hc7 rfl _ _ rfl ?_))
                  have HBw5 := HB2.out.trans (HB5'.out.mono HB2.out.size)
                  have HBw6 := (below_drew HBw5).alloc (B := w.heap.size) HBw5.size (.cells #[.string x1, .string x2] 28)
                  have HB9 := Lib.hid (HBw6.trans (hb7.mono HBw6.size))
                  have HSL9 := Lib.hid (Sl.of_own hown7)
                  clear hg7 hb7 hown7 HX7 HBw5 HBw6
                  go_wp2
                  exact ⟨⟨k + 1, insAtR acc ⟨x1, x2⟩ acc.length, by omega, by rw [insAt_endR]; omega, by go_num, HB9.out, by rw [insAt_endR, ← app_endR]; exact HSL9.out, Lib.hid (by rw [HE.out, HPS.out])⟩, by simp [intOf]; omega⟩
                · skip
                  have hco2 : acc.length < co := by omega
                  clear hbj
                  go_wp2_with fail
                  go_big_quiet (fail)
                  go_wp2_with (at_builtin; refine halt_ ?_)
                  unfold Halt_
                  refine app_zero _ rfl _ _ 23 rfl 28 inf Tryz.underlying23 HINF.out (some ⟨wr.heap.size, 0, none⟩) 0 0 (Nat.le_refl _) rfl _ _ rfl ?_
                  obtain ⟨w5, hw5⟩ : ∃ w5, w5 = (wr.drewN nq).alloc (.cells #[] 28) := ⟨_, rfl⟩
                  have hb5 : Below wr.heap.size wr w5 := by rw [hw5]; exact (below_drewN (Below.refl _ _) _).alloc (Nat.le_refl _) _
                  have hh0 : wr.heap.size ≤ w5.heap.size := hb5.size
                  rw [← hw5]
                  have HX5 : Blk w5 g #[.string x1, .string x2] := HX3.below hb5
                  have HB5' := Lib.hid (HBJ.out.trans (hb5.mono HBJ.out.size))
                  have hh5 : b2 < w5.heap.size := Nat.lt_of_lt_of_le hb2 HB5'.out.size
                  have HSX := Lib.hid (fun i u (hu : (acc.flatMap Rl.cells)[i]? = some u) => show w5.drew.cell? ⟨b2, o2 + i, none⟩ = some u from (HB5'.out.cell (p := ⟨b2, o2 + i, none⟩) hb2).trans (hx2 i u hu))
                  have hi1 : (0 : Int) ≤ (acc.length : Int) := by omega
                  have hi3 : (acc.length : Int) ≤ (co : Int) := by omega
                  have HX6 : Blk w5.drew g #[.string x1, .string x2] := HX5
                  have c5x := HX5.1
                  have hgb : g < (w5.drew.alloc (.cells #[.string x1, .string x2] 28)).heap.size := Nat.lt_of_lt_of_le HX6.2.2 (((Below.refl _ w5.drew).alloc (Nat.le_refl _) _).size)
                  clear hw5 hb5 HX5 HX3 cx hx2
                  go_wp2_with fail
                  go_region_held3 (fun W => ∀ o, W.cell? ⟨g, o, none⟩ = (#[.string x1, .string x2] : Array Value)[o]?)
                    (first | exact HX6.1 | exact (HX6.alloc _).1 | exact HX7.1 | go_keep)
                    (first
                      | (refine step_append_grows rfl _ _ 23 rfl 28 inf _ 2 32 Tryz.underlying23 HINF.out hz0 hz1 hz2' rfl (Nat.le_of_ble_eq_true rfl) (some ⟨b2, o2, none⟩) acc.length acc.length (acc.flatMap Rl.cells) rfl ?_ (flat_len _ 2 Rl.cells_len acc) ?_ ⟨w5.heap.size, 0, none⟩ 1 1 (Rl.cells ⟨x1, x2⟩) rfl rfl ?_ (rl1 x1 x2) (Nat.lt_succ_self _) ?_ ?_ ?_; (intro h; cases h); (intro b hb i u hu; cases hb; rw [addr_add]; exact (World.cell?_alloc_past _ _ _ hh5).trans (HSX.out i u hu)); exact cells_new _ _ _ _ rfl; (simp only [maxLen]; omega); omega; intro v7 w7 hown7 hg7; obtain ⟨a7, c7, rfl, hc7⟩ := own_form2 hown7; have hb7 := below_of_none hg7; have HX7 := (HX6.alloc _).below hb7)
                      | (refine step_zero _ rfl _ _ 23 rfl 28 inf Tryz.underlying23 HINF.out _ _ c7 hc7 rfl _ _ rfl ?_))
                  have HBw5 := HB2.out.trans (HB5'.out.mono HB2.out.size)
                  have HBw6 := (below_drew HBw5).alloc (B := w.heap.size) HBw5.size (.cells #[.string x1, .string x2] 28)
                  have HB9 := Lib.hid (HBw6.trans (hb7.mono HBw6.size))
                  have HSL9 := Lib.hid (Sl.of_own hown7)
                  clear hg7 hb7 hown7 HX7 HBw5 HBw6
                  go_wp2
                  exact ⟨⟨k + 1, insAtR acc ⟨x1, x2⟩ acc.length, by omega, by rw [insAt_endR]; omega, by go_num, HB9.out, by rw [insAt_endR, ← app_endR]; exact HSL9.out, Lib.hid (by rw [HE.out, HPS.out])⟩, by simp [intOf]; omega⟩
      · have R := Lib.hid (HI.out.trans (insAll_endR acc l k hlt))
        obtain ⟨ao, co, rfl⟩ := hso.form
        clear hbw hso
        go_wp2
        go_ret
        exact ⟨_, rfl, by rw [R.out]; exact HSO.out, HBW.out⟩
  · obtain ⟨a1, c1, rfl⟩ := ha.form
    obtain rfl : l = [] := List.eq_nil_of_length_eq_zero (by omega)
    clear ha h0 hl
    go_enter Tryz.func49, Tryz.ntmps49
    go_wp2
    go_loopw [3, 10] (fun vo i wr => vo = .slice none 0 0 ∧ i = .int .i64 0 ∧ wr = w) (fun _ _ _ => 0)
    case atStart => exact ⟨rfl, rfl, rfl⟩
    case round =>
      obtain ⟨rfl, rfl, rfl⟩ := hrel
      go_wp2
      go_ret
      exact ⟨_, rfl, Sl.nil _ _, Below.refl _ _⟩

end Go.Proofs.YtnnieegddbcfcaaGreatDoor
namespace Go.Proofs.YtnnieegddbcfcaaGreatDoor
open Go.RowKit Go.Shelf

theorem same_lenR {l m : List Rl} (h : ¬ l.length = m.length) : decide (l = m) = false := decide_eq_false (fun e => h (by rw [e]))
theorem take_moreR {l m : List Rl} {k : Nat} (h : l.take k = m.take k) (hl : k < l.length) (hm : k < m.length) (e : l[k] = m[k]) : l.take (k + 1) = m.take (k + 1) := by
  rw [List.take_succ_eq_append_getElem hl, List.take_succ_eq_append_getElem hm, h, e]
theorem same_endR {l m : List Rl} {k : Nat} (h : l.take k = m.take k) (hl : ¬ k < l.length) (hm : ¬ k < m.length) : decide (l = m) = true := by
  rw [List.take_of_length_le (by omega), List.take_of_length_le (by omega)] at h
  exact decide_eq_true h
theorem same_noR {l m : List Rl} {k : Nat} (hl : k < l.length) (hm : k < m.length) (e : ¬ l[k] = m[k]) : decide (l = m) = false := decide_eq_false (fun h => e (by subst h; rfl))

set_option maxRecDepth 100000 in
set_option maxHeartbeats 2000000 in
theorem ref3_SameRolesD (va vb : Value) (l m : List Rl) (w : World) (ha : SlA w 2 va l.length (l.flatMap Rl.cells)) (hb : SlA w 2 vb m.length (m.flatMap Rl.cells)) :
    Calls Tryz.prog 42 #[va, vb] w fun e w' => e = .returned (.bool (decide (l = m))) ∧ ∃ n, w' = w.drewN n := by
  have hmax := ha.max
  have hmax2 := hb.max
  by_cases hl : l.length = m.length
  case neg =>
    have R := Lib.hid (same_lenR hl)
    have d : ((l.length : Int) != (m.length : Int)) = true := by rw [bne_iff_ne]; omega
    obtain ⟨a1, c1, rfl⟩ := ha.form
    obtain ⟨a2, c2, rfl⟩ := hb.form
    clear ha hb hl
    go_enter Tryz.func42, Tryz.ntmps42
    go_wp2
    go_ret
    exact ⟨ret_b R.out.symm, 0, rfl⟩
  have hNe := role_neq
  have hne : ((l.length : Int) != (m.length : Int)) = false := by rw [hl]; simp
  by_cases h0 : 0 < l.length
  · obtain ⟨b1, o1, c1, rfl, hc1, hm1, _, hx1⟩ := ha.pos h0
    obtain ⟨b2, o2, c2, rfl, hc2, hm2, _, hx2⟩ := hb.pos (by omega)
    have HX1 := Lib.hid hx1
    have HX2 := Lib.hid hx2
    have HL := Lib.hid hl
    clear ha hb hx1 hx2 hl
    go_enter Tryz.func42, Tryz.ntmps42
    go_wp2
    go_loopw [13] (fun i wr => ∃ k n : Nat, k ≤ l.length ∧ i = .int .i64 k ∧ wr = w.drewN n ∧ Hid (l.take k = m.take k)) (fun i _ => l.length - (intOf i).toNat)
    case atStart => exact ⟨0, 0, by omega, rfl, rfl, Lib.hid (by simp)⟩
    case round =>
      obtain ⟨k, n, hk, rfl, rfl, HT⟩ := hrel
      by_cases hlt : k < l.length
      · have hlt2 : k < m.length := by have := HL.out; omega
        obtain ⟨p0, p1⟩ := rl_cell HX1.out k hlt
        obtain ⟨q0, q1⟩ := rl_cell HX2.out k hlt2
        by_cases he : l[k] = m[k]
        · have HN := Lib.hid (take_moreR HT.out hlt hlt2 he)
          have d1 : (!eqRl ⟨l[k].o, l[k].n⟩ ⟨m[k].o, m[k].n⟩) = false := by
            have := congrArg (!·) (decide_eq_true he); exact this
          clear he
          go_wp2_with fail
          go_big_quiet (fail)
          go_wp2
          exact ⟨⟨k + 1, n + nq, by omega, by go_num, rfl, HN⟩, by simp [intOf]; omega⟩
        · have R := Lib.hid (same_noR hlt hlt2 he)
          have d1 : (!eqRl ⟨l[k].o, l[k].n⟩ ⟨m[k].o, m[k].n⟩) = true := by
            have := congrArg (!·) (decide_eq_false he); exact this
          clear he
          go_wp2_with fail
          go_big_quiet (fail)
          go_wp2
          go_ret
          exact ⟨ret_b R.out.symm, n + nq, by simp [World.drewN, Nat.add_assoc]⟩
      · have R := Lib.hid (same_endR HT.out hlt (by have := HL.out; omega))
        go_wp2
        go_ret
        exact ⟨ret_b R.out.symm, n, rfl⟩
  · have R := Lib.hid (same_endR (l := l) (m := m) (k := 0) (by simp) h0 (by omega))
    obtain ⟨a1, c1, rfl⟩ := ha.form
    obtain ⟨a2, c2, rfl⟩ := hb.form
    have d0 : l.length = 0 := by omega
    have d02 : m.length = 0 := by omega
    clear ha hb h0 hmax hl hmax2
    go_enter Tryz.func42, Tryz.ntmps42
    go_wp2
    go_loopw [13] (fun i wr => i = .int .i64 0 ∧ wr = w) (fun _ _ => 0)
    case atStart => exact ⟨rfl, rfl⟩
    case round =>
      obtain ⟨rfl, rfl⟩ := hrel
      go_wp2
      go_ret
      exact ⟨ret_b R.out.symm, 0, rfl⟩

theorem ref3_SameRolesE (va vb : Value) (l m : List Rl) (w : World) (ha : SlA w 2 va l.length (l.flatMap Rl.cells)) (hb : SlA w 2 vb m.length (m.flatMap Rl.cells)) :
    Calls Tryz.prog 42 #[va, vb] w fun e w' => e = .returned (.bool (decide (l = m))) ∧ Below w.heap.size w w' :=
  (ref3_SameRolesD va vb l m w ha hb).mono fun e w' ⟨he, n, hn⟩ => ⟨he, by rw [hn]; exact below_of_drewN n⟩
end Go.Proofs.YtnnieegddbcfcaaGreatDoor
namespace Go.Proofs.YtnnieegddbcfcaaGreatDoor
open Go.RowKit Go.Shelf

theorem eqRl_selfR (x : Rl) : eqRl x x = true := decide_eq_true rfl
theorem hasR_mem (l : List Rl) (x : Rl) : hasR l x = true ↔ x ∈ l := by
  unfold hasR; rw [List.any_eq_true]
  constructor
  · rintro ⟨y, hy, e⟩; rw [← of_decide_eq_true e]; exact hy
  · intro h; exact ⟨x, h, eqRl_selfR x⟩
theorem lt_trans'R {x y z : Rl} (h : cmpR x y < 0) (h' : cmpR y z < 0) : cmpR x z < 0 := by
  obtain ⟨a, b⟩ := wcmp_rl.le x y z (by omega) (by omega)
  have : ¬ cmpR x z = 0 := fun e => by have := (b e).1; omega
  omega
theorem lt_irrefl'R (x : Rl) : ¬ cmpR x x < 0 := by have := (cmpR_zero x x).2 rfl; omega
/-- A row in strict order. -/
def AscR (l : List Rl) : Prop := l.Pairwise fun x y => cmpR x y < 0
theorem asc_uniqueR : ∀ (l m : List Rl), AscR l → AscR m → (∀ x, x ∈ l ↔ x ∈ m) → l = m
  | [], [], _, _, _ => rfl
  | [], y :: m, _, _, h => absurd ((h y).2 (by simp)) (by simp)
  | x :: l, [], _, _, h => absurd ((h x).1 (by simp)) (by simp)
  | x :: l, y :: m, hl, hm, h => by
    have hl' := List.pairwise_cons.1 hl
    have hm' := List.pairwise_cons.1 hm
    have e : x = y := by
      rcases List.mem_cons.1 ((h x).1 (by simp)) with e | e
      · exact e
      · rcases List.mem_cons.1 ((h y).2 (by simp)) with e' | e'
        · exact e'.symm
        · exact absurd (lt_trans'R (hm'.1 x e) (hl'.1 y e')) (lt_irrefl'R y)
    subst e
    refine congrArg (x :: ·) (asc_uniqueR l m hl'.2 hm'.2 fun z => ?_)
    constructor
    · intro hz
      rcases List.mem_cons.1 ((h z).1 (by simp [hz])) with e | e
      · subst e; exact absurd (hl'.1 z hz) (lt_irrefl'R z)
      · exact e
    · intro hz
      rcases List.mem_cons.1 ((h z).2 (by simp [hz])) with e | e
      · subst e; exact absurd (hm'.1 z hz) (lt_irrefl'R z)
      · exact e
/-- A row in order without those that stand twice. -/
def dedupR : List Rl → List Rl
  | [] => []
  | [x] => [x]
  | x :: y :: r => if x = y then dedupR (y :: r) else x :: dedupR (y :: r)
theorem dedup_memR : ∀ (l : List Rl) (z : Rl), z ∈ dedupR l ↔ z ∈ l
  | [], z => by simp [dedupR]
  | [x], z => by simp [dedupR]
  | x :: y :: r, z => by
    have ih := dedup_memR (y :: r) z
    unfold dedupR
    by_cases e : x = y
    · rw [if_pos e, ih, e]; simp
    · rw [if_neg e, List.mem_cons, ih, List.mem_cons (b := x)]
theorem dedup_ascR : ∀ (l : List Rl), (l.Pairwise fun x y => cmpR x y ≤ 0) → AscR (dedupR l)
  | [], _ => List.Pairwise.nil
  | [x], _ => by simp [dedupR, AscR]
  | x :: y :: r, h => by
    have h' := List.pairwise_cons.1 h
    have ih := dedup_ascR (y :: r) h'.2
    unfold dedupR
    by_cases e : x = y
    · rw [if_pos e]; exact ih
    · rw [if_neg e]
      refine List.pairwise_cons.2 ⟨fun z hz => ?_, ih⟩
      have hxy : cmpR x y < 0 := by
        have := h'.1 y (by simp)
        have h0 : ¬ cmpR x y = 0 := fun e' => e ((cmpR_zero x y).1 e')
        omega
      have hz' := (dedup_memR (y :: r) z).1 hz
      rcases List.mem_cons.1 hz' with rfl | hz'
      · exact hxy
      · have hyz := (List.pairwise_cons.1 h'.2).1 z hz'
        obtain ⟨a, b⟩ := wcmp_rl.le x y z (by omega) hyz
        have : ¬ cmpR x z = 0 := fun e => by have := (b e).1; omega
        omega
theorem insS_memR (l : List Rl) (x z : Rl) : z ∈ insSR l x ↔ z ∈ l ∨ z = x := by
  unfold insSR
  by_cases h : hasR l x = true
  · rw [if_pos h]
    exact ⟨.inl, fun h' => h'.elim id (fun e => e ▸ (hasR_mem l x).1 h)⟩
  · rw [if_neg h]
    unfold insAtR
    rw [List.mem_append, List.mem_cons]
    have := List.take_append_drop (posSR l x) l
    constructor
    · rintro (h | h | h)
      · exact .inl (List.mem_of_mem_take h)
      · exact .inr h
      · exact .inl (List.mem_of_mem_drop h)
    · rintro (h | h)
      · rw [← this] at h
        rcases List.mem_append.1 h with h | h
        · exact .inl h
        · exact .inr (.inr h)
      · exact .inr (.inl h)
theorem pos_takeR : ∀ (l : List Rl) (x z : Rl), z ∈ l.take (posSR l x) → cmpR z x < 0
  | [], _, _, h => by simp at h
  | a :: r, x, z, h => by
    unfold posSR at h
    by_cases ha : cmpR a x < 0
    · rw [if_pos ha] at h
      rcases List.mem_cons.1 (by simpa using h) with rfl | h
      · exact ha
      · exact pos_takeR r x z h
    · rw [if_neg ha] at h; simp at h
theorem pos_dropR : ∀ (l : List Rl) (x z : Rl), AscR l → z ∈ l.drop (posSR l x) → ¬ cmpR z x < 0
  | [], _, _, _, h => by simp at h
  | a :: r, x, z, hl, h => by
    unfold posSR at h
    by_cases ha : cmpR a x < 0
    · rw [if_pos ha] at h
      exact pos_dropR r x z (List.pairwise_cons.1 hl).2 (by simpa using h)
    · rw [if_neg ha] at h
      rcases List.mem_cons.1 (by simpa using h) with rfl | h
      · exact ha
      · have := (List.pairwise_cons.1 hl).1 z h
        intro hz; exact ha (lt_trans'R this hz)
theorem insS_ascR {l : List Rl} (h : AscR l) (x : Rl) : AscR (insSR l x) := by
  unfold insSR
  by_cases hx : hasR l x = true
  · rw [if_pos hx]; exact h
  · rw [if_neg hx]
    have hn : ¬ x ∈ l := fun h' => hx ((hasR_mem l x).2 h')
    have h1 : AscR (l.take (posSR l x)) := h.sublist (List.take_sublist _ _)
    have h2 : AscR (l.drop (posSR l x)) := h.sublist (List.drop_sublist _ _)
    have h3 : ∀ a ∈ l.take (posSR l x), ∀ b ∈ l.drop (posSR l x), cmpR a b < 0 := by
      have := h
      rw [AscR, ← List.take_append_drop (posSR l x) l, List.pairwise_append] at this
      exact this.2.2
    unfold insAtR AscR
    rw [List.pairwise_append, List.pairwise_cons]
    refine ⟨h1, ⟨fun b hb => ?_, h2⟩, fun a ha b hb => ?_⟩
    · have h4 := pos_dropR l x b h hb
      have h5 : ¬ cmpR b x = 0 := fun e => hn ((cmpR_zero b x).1 e ▸ List.mem_of_mem_drop hb)
      have := wcmp_rl.neg b x
      omega
    · rcases List.mem_cons.1 hb with rfl | hb
      · exact pos_takeR l b a ha
      · exact h3 a ha b hb
theorem insAll_ascR : ∀ (l acc : List Rl), AscR acc → AscR (insAllR acc l)
  | [], _, h => h
  | x :: l, _, h => insAll_ascR l _ (insS_ascR h x)
theorem insAll_memR : ∀ (l acc : List Rl) (z : Rl), z ∈ insAllR acc l ↔ z ∈ acc ∨ z ∈ l
  | [], acc, z => by simp [insAllR]
  | x :: l, acc, z => by
    unfold insAllR
    rw [insAll_memR l, insS_memR, List.mem_cons, or_assoc]
/-- A row in order, each once. -/
def ordR (l : List Rl) : List Rl := insAllR [] l
theorem ord_ascR (l : List Rl) : AscR (ordR l) := insAll_ascR l [] List.Pairwise.nil
theorem ord_memR (l : List Rl) (x : Rl) : x ∈ ordR l ↔ x ∈ l := by unfold ordR; rw [insAll_memR]; simp
theorem ord_filterR (l : List Rl) (p : Rl → Bool) : ordR (l.filter p) = (ordR l).filter p :=
  asc_uniqueR _ _ (ord_ascR _) ((ord_ascR l).filter _) (fun x => by simp [ord_memR])
theorem insAll_lenR : ∀ (l acc : List Rl), (insAllR acc l).length ≤ acc.length + l.length
  | [], acc => Nat.le_refl _
  | x :: r, acc => by
    have h1 := insAll_lenR r (insSR acc x)
    have h2 := insS_lenR acc x
    show (insAllR (insSR acc x) r).length ≤ acc.length + (r.length + 1)
    omega
theorem ord_lenR (l : List Rl) : (ordR l).length ≤ l.length := by have := insAll_lenR l []; simpa [ordR] using this
theorem filter_takeR {l : List Rl} {p : Rl → Bool} {k : Nat} (h : k < l.length) : (l.take (k + 1)).filter p = (l.take k).filter p ++ (if p l[k] = true then [l[k]] else []) := by
  rw [List.take_succ_eq_append_getElem h, List.filter_append]
  cases hp : p l[k] <;> simp [hp]
theorem filter_yesR {l : List Rl} {p : Rl → Bool} {k : Nat} (h : k < l.length) (hp : p l[k] = true) : (l.take (k + 1)).filter p = (l.take k).filter p ++ [l[k]] := by
  rw [filter_takeR h, if_pos hp]
theorem filter_noR {l : List Rl} {p : Rl → Bool} {k : Nat} (h : k < l.length) (hp : p l[k] = false) : (l.take (k + 1)).filter p = (l.take k).filter p := by
  rw [filter_takeR h, if_neg (by rw [hp]; exact Bool.false_ne_true), List.append_nil]
end Go.Proofs.YtnnieegddbcfcaaGreatDoor
namespace Go.Proofs.YtnnieegddbcfcaaGreatDoor
open Go.RowKit Go.Shelf

section
variable {α : Type} {l : List α} {p : α → Bool}
end

def stays (h : List Rl) (m : List St) (s : St) : Bool := hasR h s.h && !hasS m s
end Go.Proofs.YtnnieegddbcfcaaGreatDoor
namespace Go.Proofs.YtnnieegddbcfcaaGreatDoor
open Go.RowKit Go.Shelf

end Go.Proofs.YtnnieegddbcfcaaGreatDoor
namespace Go.Proofs.YtnnieegddbcfcaaGreatDoor
open Go.RowKit Go.Shelf

theorem ref3_SameB (va vb : Value) (l m : List St) (w : World) (ha : SlA w 9 va l.length (l.flatMap St.cells)) (hb : SlA w 9 vb m.length (m.flatMap St.cells)) :
    Calls Tryz.prog 30 #[va, vb] w fun e w' => e = .returned (.bool (decide (l = m))) ∧ Below w.heap.size w w' :=
  (ref3_Same va vb l m w ha hb).mono fun e w' ⟨he, n, hn⟩ => ⟨he, by rw [hn]; exact below_of_drewN n⟩
end Go.Proofs.YtnnieegddbcfcaaGreatDoor
namespace Go.Proofs.YtnnieegddbcfcaaGreatDoor
open Go.RowKit Go.Shelf

theorem sortR_row (va : Value) (l : List Rl) (w : World) (ha : SlA w 2 va l.length (l.flatMap Rl.cells)) (hl : l.length ≤ 1000) :
    Calls Tryz.prog 49 #[va] w fun e w' => ∃ v, e = .returned v ∧ Sl w' 2 v (insAllR [] l).length ((insAllR [] l).flatMap Rl.cells) ∧ Below w.heap.size w w' := ref5_Sort va l w ha hl

end Go.Proofs.YtnnieegddbcfcaaGreatDoor
