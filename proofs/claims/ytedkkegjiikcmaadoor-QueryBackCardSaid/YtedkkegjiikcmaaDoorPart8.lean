/- query.Words, and the reader's ask. slices.Insert at texts: one text more, at a place, into a row of the call's own. slices.BinarySearch at texts in order: whether one is among them, and its place (out of TabFind). The reader of package query: who (printed by gen_qwho.py). A row of the call's own stands above every lower bound. -/
import Derived.Test.YtedkkegjiikcmaaDoorPart7
import Derived.Test.YtedkkegjiikcmaaDoorPart5
import Derived.Shelf.Spec.SlicesInsert
import Derived.Lib.AppendZerosOnto
import Derived.Test.YtedkkegjiikcmaaDoorPart1
namespace Go.Proofs.YtedkkegjiikcmaaDoor
open Go.RowKit Go.Shelf

def firstW (k : Int) : ByteArray := if k = 1 then wHas else if k = 2 then wHave else if k = 3 then wWithin else if k = 4 then wBe else if k = 5 then wApart else wIn
theorem six_of_int {k : Int} (h1 : 1 ≤ k) (h6 : k ≤ 6) : k = 1 ∨ k = 2 ∨ k = 3 ∨ k = 4 ∨ k = 5 ∨ k = 6 := by omega
theorem wordsL_one {k : Int} (h1 : 1 ≤ k) (h6 : k ≤ 6) (h4 : ¬ k = 4) : wordsL k = [firstW k] := by
  rcases six_of_int h1 h6 with rfl | rfl | rfl | rfl | rfl | rfl <;> first | rfl | exact absurd rfl h4
theorem kindW_first {k : Int} (h1 : 1 ≤ k) (h6 : k ≤ 6) : kindW (firstW k) = k := by
  rcases six_of_int h1 h6 with rfl | rfl | rfl | rfl | rfl | rfl <;> decide
theorem kindW_none {s : ByteArray} (h : ∀ i : Int, 1 ≤ i → i < 7 → ¬ firstW i = s) : kindW s = 0 := by
  have n : ∀ i : Int, 1 ≤ i → i < 7 → ¬ s = firstW i := fun i h1 h7 e => h i h1 h7 e.symm
  unfold kindW
  rw [if_neg (show ¬ s = wHas from n 1 (by decide) (by decide)), if_neg (show ¬ s = wHave from n 2 (by decide) (by decide)), if_neg (show ¬ s = wWithin from n 3 (by decide) (by decide)), if_neg (show ¬ s = wBe from n 4 (by decide) (by decide)), if_neg (show ¬ s = wApart from n 5 (by decide) (by decide)), if_neg (show ¬ s = wIn from n 6 (by decide) (by decide))]
def WordsR (k : Int) (w : World) (e : Ending) (w' : World) : Prop := ∃ b : Nat, w.heap.size ≤ b ∧ e = .returned (.slice (some ⟨b, 0, none⟩) (wordsL k).length (wordsL k).length) ∧ w'.heap[b]? = some (.cells (strs (wordsL k)).toArray 9 (0, 0)) ∧ Below w.heap.size w w'
set_option maxRecDepth 100000 in
set_option maxHeartbeats 2000000 in
theorem query_Words (q : Qv) (h1 : 1 ≤ q.k) (h6 : q.k ≤ 6) (w : World) : Calls Tryd.prog 23 #[qv q] w fun e w' => WordsR q.k w e w' := by
  obtain ⟨k, ⟨a1, a2⟩, ⟨b1, b2⟩, v⟩ := q
  dsimp only at h1 h6
  have fin : ∀ (cs : Array Value), Below w.heap.size w ((w.alloc (.cells #[.int .i64 k, .string a1, .string a2, .string b1, .string b2, v] 31)).alloc (.cells cs 9)) := fun cs => ((Below.refl _ _).alloc (Nat.le_refl _) _).alloc (by simp) _
  have new : ∀ (cs : Array Value), ((w.alloc (.cells #[.int .i64 k, .string a1, .string a2, .string b1, .string b2, v] 31)).alloc (.cells cs 9)).heap[w.heap.size + 1]? = some (.cells cs 9 (0, 0)) := fun cs => by
    have := heap_alloc_new (w.alloc (.cells #[.int .i64 k, .string a1, .string a2, .string b1, .string b2, v] 31)) (.cells cs 9)
    simpa using this
  have FIN := Lib.hid fin
  have NEW := Lib.hid new
  clear fin new
  rcases six_of_int h1 h6 with rfl | rfl | rfl | rfl | rfl | rfl
  all_goals (
    go_enter Tryd.func23, Tryd.ntmps23
    go_wp2
    go_ret
    exact ⟨w.heap.size + 1, by omega, rfl, NEW.out _, FIN.out _⟩)
set_option maxRecDepth 100000 in
set_option maxHeartbeats 8000000 in
theorem qr_ask (r : Rd) (u : Bool) (w0 w : World) (g : Nat) (h : RdAt w0 w g r) :
    Calls Tryd.prog 43 #[.pointer (some ⟨g, 0, none⟩), .bool u] w fun e w' => e = .returned (.int .i64 (r.ask u).1) ∧ RdAt w0 w' g (r.ask u).2 ∧ w.grownBy w' (some g) := by
  cases u with
  | false =>
    obtain ⟨W, hW⟩ : ∃ W, W = w.alloc (.cells #[.string wHave, .string wBe] 9) := ⟨_, rfl⟩
    have hb1 : Below w.heap.size w W := by rw [hW]; exact (Below.refl _ _).alloc (Nat.le_refl _) _
    have HWD := Lib.hid (qr_word r w0 W g (.slice (some ⟨w.heap.size, 0, none⟩) 2 2) [wHave, wBe] (h.later hb1) (by rw [hW]; exact (Sl.new1 w [.string wHave, .string wBe] 9 w.heap.size 2 rfl rfl (by decide)).a))
    have GB := Lib.hid (gb_of_below (r := some g) hb1)
    clear h hb1
    subst hW
    go_enter Tryd.func43, Tryd.ntmps43
    go_wp2_with fail
    refine HWD.out.mono ?_
    rintro e w1 ⟨rfl, hr1, hg1⟩
    have HR := Lib.hid hr1
    have HG := Lib.hid (gb_trans GB.out hg1)
    clear hr1 hg1 HWD GB
    have RES := Lib.hid (show (r.ask false) = (kindW (r.word (askW false)).1, if kindW (r.word (askW false)).1 = 4 then ((r.word (askW false)).2.word [wEmpty]).2 else (r.word (askW false)).2) from rfl)
    rw [show r.word [wHave, wBe] = r.word (askW false) from rfl] at HR ⊢
    generalize r.word (askW false) = p at HR RES ⊢
    obtain ⟨s, r1⟩ := p
    dsimp only at HR RES ⊢
    go_wp2_with fail
    go_loopw [7] (fun i wr => ∃ j : Int, 1 ≤ j ∧ j ≤ 7 ∧ i = .int .i64 j ∧ Hid (RdAt w0 wr g r1) ∧ Hid (w.grownBy wr (some g)) ∧ Hid (∀ i : Int, 1 ≤ i → i < j → ¬ firstW i = s)) (fun i _ => 7 - (intOf i).toNat)
    case atStart => exact ⟨1, by omega, by omega, rfl, HR, HG, Lib.hid (fun i h1 h2 => by omega)⟩
    case round =>
      clear HR HG
      obtain ⟨j, hj1, hj7, rfl, HR, HG, HN⟩ := hrel
      by_cases hj : j ≤ 6
      · have HW := Lib.hid (query_Words ⟨j, noR, noR, .slice none 0 0⟩ hj1 hj wr)
        go_wp2_with fail
        refine HW.out.mono ?_
        rintro e w2 ⟨b, hb, rfl, hcell, hbel⟩
        have HR2 := Lib.hid (HR.out.later hbel)
        have HG2 := Lib.hid (gb_trans HG.out (gb_of_below (r := some g) hbel))
        have hlt2 : b < w2.heap.size := (Array.getElem?_eq_some_iff.1 hcell).1
        clear HW hbel
        by_cases h4 : j = 4
        · subst h4
          have q0 : w2.cell? ⟨b, 0, none⟩ = some (.string (firstW 4)) := by rw [cell_of_row _ b 0 _ _ _ hcell]; rfl
          have q1 : w2.cell? ⟨b, 1, none⟩ = some (.string wEmpty) := by rw [cell_of_row _ b 1 _ _ _ hcell]; rfl
          rw [show (wordsL 4).length = 2 from rfl]
          clear hcell
          by_cases he : firstW 4 = s
          · have R2 := Lib.hid (show r.ask false = (4, (r1.word [wEmpty]).2) by rw [RES.out, ← he, kindW_first (by decide) (by decide)]; rfl)
            have d : ((firstW 4).toList == s.toList) = true := by rw [beq_str, he]; exact decide_eq_true rfl
            clear he RES
            go_wp2_with fail
            go_loopw [32] (fun i wr => (i = .int .i64 0 ∧ wr = w2) ∨ (i = .int .i64 1 ∧ RdAt w0 wr g (r1.word [wEmpty]).2 ∧ w.grownBy wr (some g))) (fun i _ => 2 - (intOf i).toNat)
            case atStart => exact .inl ⟨rfl, rfl⟩
            case round =>
              rcases hrel with ⟨rfl, rfl⟩ | ⟨rfl, hr, hgb⟩
              · have HB := Lib.hid (show Below wr.heap.size wr (wr.alloc (.cells #[.string wEmpty] 9)) from (Below.refl _ _).alloc (Nat.le_refl _) _)
                have HWD := Lib.hid (qr_word r1 w0 (wr.alloc (.cells #[.string wEmpty] 9)) g (.slice (some ⟨wr.heap.size, 0, none⟩) 1 1) [wEmpty] (HR2.out.later HB.out) (Sl.new1 wr [.string wEmpty] 9 wr.heap.size 1 rfl rfl (by decide)).a)
                go_wp2_with fail
                refine HWD.out.mono ?_
                rintro e w3 ⟨rfl, hr3, hg3⟩
                have HR3 := Lib.hid hr3
                have HG3 := Lib.hid (gb_trans (gb_trans HG2.out (gb_of_below (r := some g) HB.out)) hg3)
                clear hr3 hg3 HWD
                go_wp2
                exact ⟨.inr ⟨rfl, HR3.out, HG3.out⟩, by simp [intOf]⟩
              · have HR3 := Lib.hid hr
                have HG3 := Lib.hid hgb
                clear hr hgb
                go_wp2
                go_ret
                rw [R2.out]
                exact ⟨rfl, HR3.out, HG3.out⟩
          · have d : ((firstW 4).toList == s.toList) = false := by rw [beq_str]; exact decide_eq_false he
            have HN2 := Lib.hid (fun (i : Int) (h1 : 1 ≤ i) (h2 : i < 5) => show ¬ firstW i = s by
              by_cases h : i < 4
              · exact HN.out i h1 h
              · obtain rfl : i = 4 := by omega
                exact he)
            clear he
            go_wp2
            exact ⟨⟨5, by omega, by omega, rfl, HR2, HG2, HN2⟩, by simp [intOf]⟩
        · have q0 : w2.cell? ⟨b, 0, none⟩ = some (.string (firstW j)) := by rw [cell_of_row _ b 0 _ _ _ hcell]; rw [wordsL_one hj1 hj h4]; rfl
          rw [show (wordsL j).length = 1 by rw [wordsL_one hj1 hj h4]; rfl]
          clear hcell
          have KF := Lib.hid (kindW_first hj1 hj)
          by_cases he : firstW j = s
          · have R2 := Lib.hid (show r.ask false = (j, r1) by rw [RES.out, ← he, KF.out, if_neg h4])
            have d : ((firstW j).toList == s.toList) = true := by rw [beq_str, he]; exact decide_eq_true rfl
            clear he RES KF
            generalize firstW j = fw at *
            go_wp2_with fail
            go_loopw [32] (fun i wr => i = .int .i64 0 ∧ wr = w2) (fun i _ => 0)
            case atStart => exact ⟨rfl, rfl⟩
            case round =>
              obtain ⟨rfl, rfl⟩ := hrel
              go_wp2
              go_ret
              rw [R2.out]
              exact ⟨rfl, HR2.out, HG2.out⟩
          · have d : ((firstW j).toList == s.toList) = false := by rw [beq_str]; exact decide_eq_false he
            have HN2 := Lib.hid (fun (i : Int) (h1 : 1 ≤ i) (h2 : i < j + 1) => show ¬ firstW i = s by
              by_cases h : i < j
              · exact HN.out i h1 h
              · obtain rfl : i = j := by omega
                exact he)
            clear he KF
            generalize firstW j = fw at q0 d
            go_wp2
            exact ⟨⟨j + 1, by omega, by omega, rfl, HR2, HG2, HN2⟩, by simp [intOf]; omega⟩
      · obtain rfl : j = 7 := by omega
        have R2 := Lib.hid (show r.ask false = (0, r1) by rw [RES.out, kindW_none HN.out]; rfl)
        go_wp2
        go_ret
        rw [R2.out]
        exact ⟨rfl, HR.out, HG.out⟩
  | true =>
    obtain ⟨W0, hW0⟩ : ∃ W, W = w.alloc (.cells #[.string wHave, .string wBe] 9) := ⟨_, rfl⟩
    obtain ⟨W, hW⟩ : ∃ W, W = W0.alloc (.cells #[.string wHas, .string wWithin, .string wApart, .string wIn] 9) := ⟨_, rfl⟩
    have hb0 : Below w.heap.size w W0 := by rw [hW0]; exact (Below.refl _ _).alloc (Nat.le_refl _) _
    have hb1 : Below w.heap.size w W := by rw [hW]; exact hb0.alloc hb0.size _
    have hs0 : W0.heap.size = w.heap.size + 1 := by rw [hW0]; simp
    have HWD := Lib.hid (qr_word r w0 W g (.slice (some ⟨w.heap.size + 1, 0, none⟩) 4 4) [wHas, wWithin, wApart, wIn] (h.later hb1) (by rw [hW]; exact (Sl.new1 W0 [.string wHas, .string wWithin, .string wApart, .string wIn] 9 (w.heap.size + 1) 4 hs0.symm rfl (by decide)).a))
    have GB := Lib.hid (gb_of_below (r := some g) hb1)
    clear h hb1 hb0 hs0
    subst hW hW0
    go_enter Tryd.func43, Tryd.ntmps43
    go_wp2_with fail
    refine HWD.out.mono ?_
    rintro e w1 ⟨rfl, hr1, hg1⟩
    have HR := Lib.hid hr1
    have HG := Lib.hid (gb_trans GB.out hg1)
    clear hr1 hg1 HWD GB
    have RES := Lib.hid (show (r.ask true) = (kindW (r.word (askW true)).1, if kindW (r.word (askW true)).1 = 4 then ((r.word (askW true)).2.word [wEmpty]).2 else (r.word (askW true)).2) from rfl)
    rw [show r.word [wHas, wWithin, wApart, wIn] = r.word (askW true) from rfl] at HR ⊢
    generalize r.word (askW true) = p at HR RES ⊢
    obtain ⟨s, r1⟩ := p
    dsimp only at HR RES ⊢
    go_wp2_with fail
    go_loopw [7] (fun i wr => ∃ j : Int, 1 ≤ j ∧ j ≤ 7 ∧ i = .int .i64 j ∧ Hid (RdAt w0 wr g r1) ∧ Hid (w.grownBy wr (some g)) ∧ Hid (∀ i : Int, 1 ≤ i → i < j → ¬ firstW i = s)) (fun i _ => 7 - (intOf i).toNat)
    case atStart => exact ⟨1, by omega, by omega, rfl, HR, HG, Lib.hid (fun i h1 h2 => by omega)⟩
    case round =>
      clear HR HG
      obtain ⟨j, hj1, hj7, rfl, HR, HG, HN⟩ := hrel
      by_cases hj : j ≤ 6
      · have HW := Lib.hid (query_Words ⟨j, noR, noR, .slice none 0 0⟩ hj1 hj wr)
        go_wp2_with fail
        refine HW.out.mono ?_
        rintro e w2 ⟨b, hb, rfl, hcell, hbel⟩
        have HR2 := Lib.hid (HR.out.later hbel)
        have HG2 := Lib.hid (gb_trans HG.out (gb_of_below (r := some g) hbel))
        have hlt2 : b < w2.heap.size := (Array.getElem?_eq_some_iff.1 hcell).1
        clear HW hbel
        by_cases h4 : j = 4
        · subst h4
          have q0 : w2.cell? ⟨b, 0, none⟩ = some (.string (firstW 4)) := by rw [cell_of_row _ b 0 _ _ _ hcell]; rfl
          have q1 : w2.cell? ⟨b, 1, none⟩ = some (.string wEmpty) := by rw [cell_of_row _ b 1 _ _ _ hcell]; rfl
          rw [show (wordsL 4).length = 2 from rfl]
          clear hcell
          by_cases he : firstW 4 = s
          · have R2 := Lib.hid (show r.ask true = (4, (r1.word [wEmpty]).2) by rw [RES.out, ← he, kindW_first (by decide) (by decide)]; rfl)
            have d : ((firstW 4).toList == s.toList) = true := by rw [beq_str, he]; exact decide_eq_true rfl
            clear he RES
            go_wp2_with fail
            go_loopw [32] (fun i wr => (i = .int .i64 0 ∧ wr = w2) ∨ (i = .int .i64 1 ∧ RdAt w0 wr g (r1.word [wEmpty]).2 ∧ w.grownBy wr (some g))) (fun i _ => 2 - (intOf i).toNat)
            case atStart => exact .inl ⟨rfl, rfl⟩
            case round =>
              rcases hrel with ⟨rfl, rfl⟩ | ⟨rfl, hr, hgb⟩
              · have HB := Lib.hid (show Below wr.heap.size wr (wr.alloc (.cells #[.string wEmpty] 9)) from (Below.refl _ _).alloc (Nat.le_refl _) _)
                have HWD := Lib.hid (qr_word r1 w0 (wr.alloc (.cells #[.string wEmpty] 9)) g (.slice (some ⟨wr.heap.size, 0, none⟩) 1 1) [wEmpty] (HR2.out.later HB.out) (Sl.new1 wr [.string wEmpty] 9 wr.heap.size 1 rfl rfl (by decide)).a)
                go_wp2_with fail
                refine HWD.out.mono ?_
                rintro e w3 ⟨rfl, hr3, hg3⟩
                have HR3 := Lib.hid hr3
                have HG3 := Lib.hid (gb_trans (gb_trans HG2.out (gb_of_below (r := some g) HB.out)) hg3)
                clear hr3 hg3 HWD
                go_wp2
                exact ⟨.inr ⟨rfl, HR3.out, HG3.out⟩, by simp [intOf]⟩
              · have HR3 := Lib.hid hr
                have HG3 := Lib.hid hgb
                clear hr hgb
                go_wp2
                go_ret
                rw [R2.out]
                exact ⟨rfl, HR3.out, HG3.out⟩
          · have d : ((firstW 4).toList == s.toList) = false := by rw [beq_str]; exact decide_eq_false he
            have HN2 := Lib.hid (fun (i : Int) (h1 : 1 ≤ i) (h2 : i < 5) => show ¬ firstW i = s by
              by_cases h : i < 4
              · exact HN.out i h1 h
              · obtain rfl : i = 4 := by omega
                exact he)
            clear he
            go_wp2
            exact ⟨⟨5, by omega, by omega, rfl, HR2, HG2, HN2⟩, by simp [intOf]⟩
        · have q0 : w2.cell? ⟨b, 0, none⟩ = some (.string (firstW j)) := by rw [cell_of_row _ b 0 _ _ _ hcell]; rw [wordsL_one hj1 hj h4]; rfl
          rw [show (wordsL j).length = 1 by rw [wordsL_one hj1 hj h4]; rfl]
          clear hcell
          have KF := Lib.hid (kindW_first hj1 hj)
          by_cases he : firstW j = s
          · have R2 := Lib.hid (show r.ask true = (j, r1) by rw [RES.out, ← he, KF.out, if_neg h4])
            have d : ((firstW j).toList == s.toList) = true := by rw [beq_str, he]; exact decide_eq_true rfl
            clear he RES KF
            generalize firstW j = fw at *
            go_wp2_with fail
            go_loopw [32] (fun i wr => i = .int .i64 0 ∧ wr = w2) (fun i _ => 0)
            case atStart => exact ⟨rfl, rfl⟩
            case round =>
              obtain ⟨rfl, rfl⟩ := hrel
              go_wp2
              go_ret
              rw [R2.out]
              exact ⟨rfl, HR2.out, HG2.out⟩
          · have d : ((firstW j).toList == s.toList) = false := by rw [beq_str]; exact decide_eq_false he
            have HN2 := Lib.hid (fun (i : Int) (h1 : 1 ≤ i) (h2 : i < j + 1) => show ¬ firstW i = s by
              by_cases h : i < j
              · exact HN.out i h1 h
              · obtain rfl : i = j := by omega
                exact he)
            clear he KF
            generalize firstW j = fw at q0 d
            go_wp2
            exact ⟨⟨j + 1, by omega, by omega, rfl, HR2, HG2, HN2⟩, by simp [intOf]; omega⟩
      · obtain rfl : j = 7 := by omega
        have R2 := Lib.hid (show r.ask true = (0, r1) by rw [RES.out, kindW_none HN.out]; rfl)
        go_wp2
        go_ret
        rw [R2.out]
        exact ⟨rfl, HR.out, HG.out⟩
end Go.Proofs.YtedkkegjiikcmaaDoor
namespace Go.Proofs.YtedkkegjiikcmaaDoor
open Go.RowKit Go.Shelf

def setAll {α : Type} : Array α → Nat → List α → Array α
  | cur, _, [] => cur
  | cur, o, v :: r => setAll (cur.setIfInBounds o v) (o + 1) r
theorem setAll_size {α : Type} : ∀ (vs : List α) (o : Nat) (cur : Array α), (setAll cur o vs).size = cur.size
  | [], _, _ => rfl
  | v :: r, o, cur => by rw [setAll, setAll_size r]; simp
theorem setAll_list {α : Type} : ∀ (vs : List α) (o : Nat) (cur : Array α), o + vs.length ≤ cur.size → (setAll cur o vs).toList = cur.toList.take o ++ vs ++ cur.toList.drop (o + vs.length)
  | [], o, cur, _ => by simp [setAll]
  | v :: r, o, cur, h => by
    simp only [List.length_cons] at h
    have hl : cur.toList.length = cur.size := Array.length_toList
    rw [setAll, setAll_list r (o + 1) _ (by simp; omega), Array.toList_setIfInBounds, List.length_cons]
    have e1 : (cur.toList.set o v).take (o + 1) = cur.toList.take o ++ [v] := by
      rw [List.take_succ_eq_append_getElem (by rw [List.length_set]; omega)]
      rw [List.getElem_set_self, List.take_set_of_le (Nat.le_refl _)]
    have e2 : (cur.toList.set o v).drop (o + 1 + r.length) = cur.toList.drop (o + (r.length + 1)) := by
      rw [List.drop_set, if_pos (by omega), show o + 1 + r.length = o + (r.length + 1) by omega]
    rw [e1, e2]
    simp
theorem heap_setCell {w : World} {g o : Nat} {v : Value} {cur : Array Value} {t : TypeId} {fz : Nat × Nat} (h : w.heap[g]? = some (.cells cur t fz)) : (w.setCell ⟨g, o, none⟩ v).heap[g]? = some (.cells (cur.setIfInBounds o v) t fz) := by
  simp [World.setCell, Array.getElem?_modify, h]
theorem heap_setCells {g : Nat} {t : TypeId} {fz : Nat × Nat} : ∀ (vs : List Value) (o : Nat) (cur : Array Value) (w : World), w.heap[g]? = some (.cells cur t fz) → (w.setCells g o vs).heap[g]? = some (.cells (setAll cur o vs) t fz)
  | [], _, _, _, h => h
  | _ :: r, o, _, _, h => heap_setCells r (o + 1) _ _ (heap_setCell h)
theorem insAt_strs (xs : List ByteArray) (s : ByteArray) (i : Nat) : strs (insAtB xs s i) = (strs xs).take i ++ Value.string s :: (strs xs).drop i := by
  unfold insAtB strs
  rw [List.map_append, List.map_cons, List.map_take, List.map_drop]
theorem insAt_lastT (xs : List ByteArray) (s : ByteArray) : insAtB xs s xs.length = xs ++ [s] := by
  unfold insAtB
  rw [List.take_of_length_le (Nat.le_refl _), List.drop_of_length_le (Nat.le_refl _)]
set_option maxHeartbeats 4000000 in
set_option maxRecDepth 100000 in
theorem str_Insert_end (B : Nat) (v : Value) (xs : List ByteArray) (s : ByteArray) (vb : Nat) (w : World) (hown : w.ownsRow B 9 1 v xs.length (strs xs)) (hB : B ≤ w.heap.size) (hn : xs.length ≤ 1000)
    (hv : w.heap[vb]? = some (.cells #[.string s] 9 (0, 0))) :
    Calls Tryd.prog 85 #[v, .int .i64 xs.length, .slice (some ⟨vb, 0, none⟩) 1 1] w fun e w' => ∃ a' c', e = .returned (.slice a' (xs.length + 1) c') ∧ w'.ownsRow B 9 1 (.slice a' (xs.length + 1) c') (xs.length + 1) (strs (insAtB xs s xs.length)) ∧ w.grownBy w' v.ownBlock := by
  have HO := Lib.hid hown
  have HE := Lib.hid (show strs (insAtB xs s xs.length) = strs xs ++ [.string s] by rw [insAt_lastT]; simp [strs])
  rcases hown.2 with ⟨rfl, h0⟩ | ⟨g, cap, cur, rfl, hbg, hg, hnc, hcm, hcs, htake⟩
  · rw [h0] at HO HE ⊢
    clear hown
    go_enter Tryd.func85, Tryd.ntmps85
    go_wp2_with (at_builtin; refine halt_ ?_)
    unfold Halt_
    refine app_own Tryd.underlying22 str_info rfl (by decide) (by decide) rfl _ _ rfl B rfl HO.out [.string s] rfl hv rfl (str1 _) (by omega) hB ?_
    intro a' c' w' hown' hgrow
    go_wp2
    go_ret
    exact ⟨a', c', rfl, by rw [HE.out]; exact hown', hgrow⟩
  · have hcm' : cap ≤ 9223372036854775807 := by simpa [maxLen] using hcm
    clear hown htake hcs
    go_enter Tryd.func85, Tryd.ntmps85
    go_wp2_with (at_builtin; refine halt_ ?_)
    all_goals unfold Halt_
    all_goals first
      | refine app_own Tryd.underlying22 str_info rfl (by decide) (by decide) rfl _ _ rfl B rfl HO.out [.string s] rfl hv rfl (str1 _) (by omega) hB ?_
      | (obtain rfl : cap = xs.length := by omega
         refine app_own Tryd.underlying22 str_info rfl (by decide) (by decide) rfl _ _ rfl B rfl HO.out [.string s] rfl hv rfl (str1 _) (by omega) hB ?_)
    all_goals intro a' c' w' hown' hgrow
    all_goals go_wp2
    all_goals go_ret
    all_goals exact ⟨a', c', rfl, by rw [HE.out]; exact hown', hgrow⟩
theorem ins_list {A cs : List Value} (x : Value) (i n : Nat) (hA : A.take n = cs) (hi : i < n) (hn : n + 1 ≤ A.length) :
    (((A.take (i + 1) ++ cs.drop i ++ A.drop (i + 1 + (n - i))).take i ++ [x] ++ (A.take (i + 1) ++ cs.drop i ++ A.drop (i + 1 + (n - i))).drop (i + 1))).take (n + 1) = cs.take i ++ x :: cs.drop i := by
  have hl : cs.length = n := by rw [← hA, List.length_take]; omega
  have h1 : (A.take (i + 1)).length = i + 1 := by rw [List.length_take]; omega
  have e1 : (A.take (i + 1) ++ cs.drop i ++ A.drop (i + 1 + (n - i))).take i = cs.take i := by
    rw [List.append_assoc, List.take_append_of_le_length (by omega), List.take_take, ← hA, List.take_take, Nat.min_eq_left (by omega), Nat.min_eq_left (by omega)]
  have e2 : (A.take (i + 1) ++ cs.drop i ++ A.drop (i + 1 + (n - i))).drop (i + 1) = cs.drop i ++ A.drop (i + 1 + (n - i)) := by
    rw [List.append_assoc, List.drop_left' h1]
  rw [e1, e2]
  have e3 : cs.take i ++ [x] ++ (cs.drop i ++ A.drop (i + 1 + (n - i))) = (cs.take i ++ x :: cs.drop i) ++ A.drop (i + 1 + (n - i)) := by simp
  rw [e3]
  have h2 : (cs.take i ++ x :: cs.drop i).length = n + 1 := by simp only [List.length_append, List.length_cons, List.length_take, List.length_drop]; omega
  exact List.take_left' h2
theorem ov_apart (vb g o lb cb : Nat) (s : ByteArray) (cur : Array Value) (w : World) (hv : w.heap[vb]? = some (.cells #[.string s] 9 (0, 0))) (hg : w.heap[g]? = some (.cells cur 9 (0, 0))) (hne : vb ≠ g) (hcur : cur.size ≠ 0) :
    (callFunc 107 #[.slice (some ⟨vb, 0, none⟩) 1 1, .slice (some ⟨g, o, none⟩) lb cb]).run Tryd.prog w = .ok (.value (.bool false)) w := by
  obtain ⟨i0, hi0, hz0, hz1, hz2⟩ := info_parts str_info
  rw [run_callFunc_extern Tryd.func107 (by kernel_rfl) (by kernel_rfl) (by kernel_rfl) (e := Extern.SlicesOverlaps.overlaps #[22, 22] #[4]) (by kernel_rfl),
    Lib.run_overlaps_apart w 22 4 9 Tryd.underlying22 1 (fun w => by simp [sizeOf, typeInfo, hi0, hz1]) ⟨vb, 0, none⟩ ⟨g, o, none⟩ 1 1 lb cb hne 9 9 1 cur.size (by simp [World.shape?, hv]) (by simp [World.shape?, hg]) hcur (by simp [World.frozen?, hv]) (by simp [World.frozen?, hv])]
  rfl
set_option maxHeartbeats 4000000 in
set_option maxRecDepth 100000 in
theorem str_Insert_room (B g cap i vb : Nat) (cur : Array Value) (xs : List ByteArray) (s : ByteArray) (w : World) (hbg : B ≤ g) (hg : w.heap[g]? = some (.cells cur 9 (0, 0))) (hi : i < xs.length) (hroom : xs.length + 1 ≤ cap) (hcm : cap ≤ maxLen)
    (hcs : cur.size = cap) (htake : cur.toList.take xs.length = strs xs) (hn : xs.length ≤ 1000) (hv : w.heap[vb]? = some (.cells #[.string s] 9 (0, 0))) (hne : vb ≠ g) :
    Calls Tryd.prog 85 #[.slice (some ⟨g, 0, none⟩) xs.length cap, .int .i64 i, .slice (some ⟨vb, 0, none⟩) 1 1] w fun e w' =>
      e = .returned (.slice (some ⟨g, 0, none⟩) (xs.length + 1) cap) ∧ w'.ownsRow B 9 1 (.slice (some ⟨g, 0, none⟩) (xs.length + 1) cap) (xs.length + 1) (strs (insAtB xs s i)) ∧ w.grownBy w' (some g) := by
  have HE := Lib.hid (insAt_strs xs s i)
  have hsz : (Tryd.prog.info? 9).map (·.size) = some 1 := by
    obtain ⟨i0, hi0, h0, h1, h2⟩ := info_parts str_info
    rw [hi0]; simp [h1]
  have hcl : (strs xs).length = xs.length := by simp [strs]
  have h1c := strs_one xs
  generalize strs xs = cs at *
  generalize strs (insAtB xs s i) = res at *
  obtain ⟨n, hxn⟩ : ∃ n, xs.length = n := ⟨_, rfl⟩
  rw [hxn] at hi hroom htake hn hcl ⊢
  clear hxn
  have hcm' : cap ≤ 9223372036854775807 := by simpa [maxLen] using hcm
  have hov : ∀ lb cb, (callFunc 107 #[.slice (some ⟨vb, 0, none⟩) 1 1, .slice (some ⟨g, i + 1, none⟩) lb cb]).run Tryd.prog w = .ok (.value (.bool false)) w := fun lb cb => ov_apart vb g (i + 1) lb cb s cur w hv hg hne (by omega)
  have hdl : (cs.drop i).length = n - i := by rw [List.length_drop, hcl]
  have hcell : ∀ j, w.cell? ⟨g, j, none⟩ = cur[j]? := fun j => cell_of_row w g j cur _ _ hg
  have hat : ∀ j v, cs[j]? = some v → cur[j]? = some v := fun j v hj => by
    have hjn : j < n := by have := (List.getElem?_eq_some_iff.1 hj).1; omega
    rw [← htake, List.getElem?_take_of_lt hjn] at hj
    simpa using hj
  have hsp : ∀ j, j < n + 1 → (w.cell? ⟨g, j, none⟩).isSome = true := fun j hj => by rw [hcell, Array.getElem?_eq_getElem (by omega)]; rfl
  have hfz : ∀ j, w.frozen? ⟨g, j, none⟩ = false := fun j => by simp [World.frozen?, hg]
  have hcp1 : ∀ ty dc sc, (Builtin.copy_ #[22, 22] ty #[.slice (some ⟨g, i + 1, none⟩) (n - i) dc, .slice (some ⟨g, i, none⟩) (n + 1 - i) sc]).run Tryd.prog w.drew = .ok (goInt (cs.drop i).length) (w.drew.setCells g (i + 1) (cs.drop i)) := fun ty dc sc =>
    run_copy_cells w.drew _ _ ty 9 g (i + 1) (n - i) dc ⟨g, i, none⟩ (n + 1 - i) sc (cs.drop i) Tryd.underlying22 hsz (by rw [hdl]; simp only [Nat.min_def]; split <;> omega)
      (fun j v hj => by rw [Addr.add_lit]; show w.cell? _ = _; rw [hcell]; exact hat (i + j) v (by rwa [List.getElem?_drop] at hj))
      (fun j hj => hsp _ (by omega)) (fun j hj => hfz _) (fun v hv => h1c v (List.mem_of_mem_drop hv))
  obtain ⟨W1, hW1⟩ : ∃ W1, W1 = w.drew.setCells g (i + 1) (cs.drop i) := ⟨_, rfl⟩
  have hg1 : W1.heap[g]? = some (.cells (setAll cur (i + 1) (cs.drop i)) 9 (0, 0)) := by rw [hW1]; exact heap_setCells _ _ _ _ hg
  have hs1 : (setAll cur (i + 1) (cs.drop i)).size = cap := by rw [setAll_size, hcs]
  have hcp2 : ∀ (W : World), (∀ x, W.cell? x = W1.cell? x) → (∀ x, W.frozen? x = W1.frozen? x) → ∀ ty dc, (Builtin.copy_ #[22, 22] ty #[.slice (some ⟨g, i, none⟩) (n + 1 - i) dc, .slice (some ⟨vb, 0, none⟩) 1 1]).run Tryd.prog W = .ok (goInt [Value.string s].length) (W.setCells g i [.string s]) := fun W hWc hWf ty dc =>
    run_copy_cells W _ _ ty 9 g i (n + 1 - i) dc ⟨vb, 0, none⟩ 1 1 [.string s] Tryd.underlying22 hsz (by simp only [List.length_singleton, Nat.min_def]; split <;> omega)
      (fun j v hj => by
        rw [Addr.add_lit, hWc, hW1, World.cell?_setCells_out g _ _ _ _ (fun h _ => absurd h hne)]
        show w.cell? _ = _
        rw [cell_of_row w vb _ _ _ _ hv]
        simpa using hj)
      (fun j hj => by rw [hWc, cell_of_row W1 g _ _ _ _ hg1, Array.getElem?_eq_getElem (by simp only [List.length_singleton] at hj; omega)]; rfl) (fun j hj => by rw [hWf]; simp [World.frozen?, hg1]) (str1 s)
  rw [← hW1] at hcp1
  have FIN : (W1.setCells g i [.string s]).ownsRow B 9 1 (.slice (some ⟨g, 0, none⟩) (n + 1) cap) (n + 1) res ∧ w.grownBy (W1.setCells g i [.string s]) (some g) := by
    refine ⟨⟨by rw [HE.out]; simp only [List.length_append, List.length_cons, List.length_take, List.length_drop]; omega, .inr ⟨g, cap, _, rfl, hbg, heap_setCells _ _ _ _ hg1, hroom, hcm, by rw [setAll_size, hs1, Nat.mul_one], ?_⟩⟩, ?_⟩
    · rw [setAll_list _ _ _ (by simp only [List.length_singleton]; omega), setAll_list _ _ _ (by rw [hdl]; omega), HE.out, Nat.mul_one, hdl]
      exact ins_list _ i n htake hi (by rw [Array.length_toList]; omega)
    · rw [hW1]
      exact grown_sets _ _ _ (grown_sets _ _ _ (gb_drew (World.grownBy.refl _ _)))
  have HF := Lib.hid FIN
  have hw1 : IntKind.i64.wrap ((i : Int) + 1) = (i : Int) + 1 := by rw [IntKind.wrap_i64]; omega
  have htn : ((i : Int) + 1).toNat = i + 1 := by omega
  have hb2 : ¬ (cap = i + 1) := by omega
  have hb4 : ¬ (cap = i) := by omega
  have hz2 : ¬ ((i : Int) = (n : Int)) := by omega
  have hin : i ≤ n := by omega
  have hb1 : (0 : Int) ≤ (i : Int) + 1 := by omega
  have mixed : Tryd.prog.follows Departure.mixedOrders = true := by kernel_rfl
  have hb3 : (i : Int) ≤ (n : Int) + 1 := by omega
  have hin1 : i + 1 ≤ n + 1 := by omega
  clear FIN HE htake hat hg1 hs1 hsp hfz hcell hdl hcl h1c hcs hv hg
  go_enter Tryd.func85, Tryd.ntmps85
  go_wp2_with (simp only [hov])
  go_region_law_o (refine step_copy_runI rfl _ _ 22 22 rfl _ _ (by simp [Act.eval, Act.put]) (by simp [Act.eval, Act.put]) (hcp1 _ _ _) ?_)
  go_wp2_with (at_builtin; refine wpList_copy_runI _ rfl _ _ 22 22 rfl _ _ rfl rfl (hcp2 _ (fun _ => rfl) (fun _ => rfl) _ _) ?_)
  go_ret
  have HF2 := HF.out
  rw [hW1] at HF2
  exact ⟨rfl, HF2.1, HF2.2⟩
theorem gb_newSets {w : World} {r : Option Nat} {G : Nat} (hG : w.heap.size ≤ G) : ∀ (vs : List Value) (o : Nat) (w' : World), w.grownBy w' r → w.grownBy (w'.setCells G o vs) r
  | [], _, _, h => h
  | v :: vs, o, w', h => gb_newSets hG vs (o + 1) _ (gb_new h hG v)
theorem ins_list2 {A cs : List Value} (x : Value) (i n : Nat) (hA : A.take i = cs.take i) (hl : cs.length = n) (hi : i < n) (hn : n + 1 ≤ A.length) :
    ((A.take i ++ [x] ++ A.drop (i + 1)).take (i + 1) ++ cs.drop i ++ (A.take i ++ [x] ++ A.drop (i + 1)).drop (i + 1 + (n - i))).take (n + 1) = cs.take i ++ x :: cs.drop i := by
  have h1 : (A.take i ++ [x]).length = i + 1 := by simp only [List.length_append, List.length_take, List.length_singleton]; omega
  have e1 : (A.take i ++ [x] ++ A.drop (i + 1)).take (i + 1) = cs.take i ++ [x] := by rw [List.take_left' h1, hA]
  rw [e1]
  have h2 : (cs.take i ++ [x] ++ cs.drop i).length = n + 1 := by simp only [List.length_append, List.length_singleton, List.length_take, List.length_drop]; omega
  rw [List.take_left' h2]
  simp
set_option maxHeartbeats 4000000 in
set_option maxRecDepth 100000 in
theorem str_Insert_grow (B g cap i vb : Nat) (cur : Array Value) (xs : List ByteArray) (s : ByteArray) (w : World) (hB : B ≤ w.heap.size) (hg : w.heap[g]? = some (.cells cur 9 (0, 0))) (hi : i < xs.length) (hnc : xs.length ≤ cap) (hroom : cap < xs.length + 1)
    (hcs : cur.size = cap) (htake : cur.toList.take xs.length = strs xs) (hn : xs.length ≤ 1000) (hv : w.heap[vb]? = some (.cells #[.string s] 9 (0, 0))) :
    Calls Tryd.prog 85 #[.slice (some ⟨g, 0, none⟩) xs.length cap, .int .i64 i, .slice (some ⟨vb, 0, none⟩) 1 1] w fun e w' =>
      ∃ GC, e = .returned (.slice (some ⟨w.heap.size, 0, none⟩) (xs.length + 1) GC) ∧ w'.ownsRow B 9 1 (.slice (some ⟨w.heap.size, 0, none⟩) (xs.length + 1) GC) (xs.length + 1) (strs (insAtB xs s i)) ∧ w.grownBy w' (some g) := by
  have HE := Lib.hid (insAt_strs xs s i)
  obtain ⟨i0, hi0, hz0, hz1, hz2⟩ := info_parts str_info
  have hsz : (Tryd.prog.info? 9).map (·.size) = some 1 := by rw [hi0]; simp [hz1]
  have hcl : (strs xs).length = xs.length := by simp [strs]
  have h1c := strs_one xs
  generalize strs xs = cs at *
  generalize strs (insAtB xs s i) = res at *
  obtain ⟨n, hxn⟩ : ∃ n, xs.length = n := ⟨_, rfl⟩
  rw [hxn] at hi hroom hnc htake hn hcl ⊢
  clear hxn
  obtain ⟨k, hk⟩ : ∃ k, n + 1 = i + k := ⟨n + 1 - i, by omega⟩
  have hglt : g < w.heap.size := (Array.getElem?_eq_some_iff.1 hg).1
  have hvlt : vb < w.heap.size := (Array.getElem?_eq_some_iff.1 hv).1
  have hcell : ∀ j, w.cell? ⟨g, j, none⟩ = cur[j]? := fun j => cell_of_row w g j cur _ _ hg
  have hat : ∀ j v, cs[j]? = some v → cur[j]? = some v := fun j v hj => by
    have hjn : j < n := by have := (List.getElem?_eq_some_iff.1 hj).1; omega
    rw [← htake, List.getElem?_take_of_lt hjn] at hj
    simpa using hj
  have hdl : (cs.drop i).length = n - i := by rw [List.length_drop, hcl]
  have htl : (cs.take i).length = i := by rw [List.length_take]; omega
  obtain ⟨GC, hGC⟩ : ∃ GC, GC = grownCap w (i + k) cap 9 := ⟨_, rfl⟩
  have hge : i + k ≤ GC := by rw [hGC]; exact grownCap_ge w (i + k) cap 9
  have hGm : GC ≤ maxLen := by rw [hGC]; exact grownCap_le_maxLen w (i + k) cap 9 (by simp only [maxLen]; omega)
  have hGm' : GC ≤ 9223372036854775807 := by simpa [maxLen] using hGm
  obtain ⟨z, hz⟩ : ∃ z, z = (Value.string ByteArray.empty) := ⟨_, rfl⟩
  obtain ⟨A, hA⟩ : ∃ A, A = (cs.take i).toArray ++ Builtin.zeroCells z.cells k ++ Builtin.zeroCells z.cells (GC - (i + k)) := ⟨_, rfl⟩
  have hzs : z.cells.size = 1 := by rw [hz]; rfl
  have hAs : A.size = GC := by rw [hA]; simp only [Array.size_append, List.size_toArray, size_zeroCells, hzs, htl]; omega
  have hAt : A.toList.take i = cs.take i := by rw [hA]; simp only [Array.toList_append, List.append_assoc]; exact List.take_left' htl
  have hrun : ∀ ty, (Builtin.append_ #[22, 3] ty #[.slice (some ⟨g, 0, none⟩) i cap, .int .i64 (k : Nat)]).run Tryd.prog w = .ok (.slice (some ⟨w.heap.size, 0, none⟩) (i + k) GC) (w.drew.alloc (.cells A 9)) := fun ty => by
    rw [hA, hGC, hz]
    exact Lib.run_append_grow_zeros w 22 3 ty 9 i0 _ .i64 .i64 Tryd.underlying22 Tryd.underlying3 hi0 hz0 (some ⟨g, 0, none⟩) i cap (cs.take i)
      (by rw [hz1]; exact run_firstCells_some w.drew 1 i ⟨g, 0, none⟩ i cap (cs.take i) (by omega) (fun j v hj => by
        rw [Addr.add_lit, Nat.zero_add]
        show w.cell? _ = _
        rw [hcell]
        have hji : j < i := by have := (List.getElem?_eq_some_iff.1 hj).1; omega
        rw [List.getElem?_take_of_lt hji] at hj
        exact hat j v hj))
      k (by omega) (by omega) (by omega) (by omega) (by rw [hz2]; omega) (by rw [hz2]; exact growslice_fits (by omega) (by omega))
  obtain ⟨W0, hW0⟩ : ∃ W0, W0 = w.drew.alloc (.cells A 9) := ⟨_, rfl⟩
  rw [← hW0] at hrun
  obtain ⟨G, hG⟩ : ∃ G, G = w.heap.size := ⟨_, rfl⟩
  have hg0 : W0.heap[G]? = some (.cells A 9 (0, 0)) := by rw [hW0, hG]; exact heap_alloc_new w.drew _
  have old : ∀ b, b < w.heap.size → W0.heap[b]? = w.heap[b]? := fun b hb => by rw [hW0]; exact heap_alloc_old w.drew _ hb
  have hcpA : ∀ (W : World), W = W0 → ∀ ty dc, (Builtin.copy_ #[22, 22] ty #[.slice (some ⟨G, i, none⟩) k dc, .slice (some ⟨vb, 0, none⟩) 1 1]).run Tryd.prog W = .ok (goInt [Value.string s].length) (W.setCells G i [.string s]) := fun W hW ty dc => by
    subst hW
    exact run_copy_cells W _ _ ty 9 G i k dc ⟨vb, 0, none⟩ 1 1 [.string s] Tryd.underlying22 hsz (by simp only [List.length_singleton, Nat.min_def]; split <;> omega)
      (fun j v hj => by
        rw [Addr.add_lit, cell_of_row W vb _ _ _ _ ((old vb hvlt).trans hv)]
        simpa using hj)
      (fun j hj => by rw [cell_of_row W G _ _ _ _ hg0, Array.getElem?_eq_getElem (by simp only [List.length_singleton] at hj; omega)]; rfl) (fun j hj => by simp [World.frozen?, hg0]) (str1 s)
  obtain ⟨W1, hW1⟩ : ∃ W1, W1 = W0.setCells G i [.string s] := ⟨_, rfl⟩
  have hg1 : W1.heap[G]? = some (.cells (setAll A i [.string s]) 9 (0, 0)) := by rw [hW1]; exact heap_setCells _ _ _ _ hg0
  have hs1 : (setAll A i [Value.string s]).size = GC := by rw [setAll_size, hAs]
  have hGg : ¬ g = G := by omega
  have hcpB : ∀ (W : World), (∀ x, W.cell? x = W1.cell? x) → (∀ x, W.frozen? x = W1.frozen? x) → ∀ ty dc sc, (Builtin.copy_ #[22, 22] ty #[.slice (some ⟨G, i + 1, none⟩) (i + k - (i + 1)) dc, .slice (some ⟨g, i, none⟩) (n - i) sc]).run Tryd.prog W = .ok (goInt (cs.drop i).length) (W.setCells G (i + 1) (cs.drop i)) := fun W hWc hWf ty dc sc =>
    run_copy_cells W _ _ ty 9 G (i + 1) (i + k - (i + 1)) dc ⟨g, i, none⟩ (n - i) sc (cs.drop i) Tryd.underlying22 hsz (by rw [hdl]; simp only [Nat.min_def]; split <;> omega)
      (fun j v hj => by
        rw [Addr.add_lit, hWc, hW1, World.cell?_setCells_out G _ _ _ _ (fun h _ => absurd h hGg), cell_of_row W0 g _ _ _ _ ((old g hglt).trans hg)]
        exact hat (i + j) v (by rwa [List.getElem?_drop] at hj))
      (fun j hj => by rw [hWc, cell_of_row W1 G _ _ _ _ hg1, Array.getElem?_eq_getElem (by omega)]; rfl) (fun j hj => by rw [hWf]; simp [World.frozen?, hg1]) (fun v hv => h1c v (List.mem_of_mem_drop hv))
  have FIN : ∀ W : World, W.heap = (W1.setCells G (i + 1) (cs.drop i)).heap → W.ownsRow B 9 1 (.slice (some ⟨G, 0, none⟩) (n + 1) GC) (n + 1) res := fun W hWh => by
    refine ⟨by rw [HE.out]; simp only [List.length_append, List.length_cons, List.length_take, List.length_drop]; omega, .inr ⟨G, GC, setAll (setAll A i [.string s]) (i + 1) (cs.drop i), rfl, by omega, by rw [hWh]; exact heap_setCells _ _ _ _ hg1, by omega, hGm, by rw [setAll_size, hs1, Nat.mul_one], ?_⟩⟩
    rw [setAll_list _ _ _ (by rw [hs1, hdl]; omega), setAll_list _ _ _ (by rw [hAs, List.length_singleton]; omega), HE.out, Nat.mul_one, hdl, List.length_singleton]
    exact ins_list2 _ i n hAt hcl hi (by rw [Array.length_toList]; omega)
  have HF := Lib.hid FIN
  have hw2 : IntKind.i64.wrap ((n : Int) + 1 - (i : Int)) = (k : Int) := by rw [IntKind.wrap_i64]; omega
  have hw1 : IntKind.i64.wrap ((i : Int) + 1) = (i : Int) + 1 := by rw [IntKind.wrap_i64]; omega
  have htn : ((i : Int) + 1).toNat = i + 1 := by omega
  have hb2 : ¬ (GC = i + 1) := by omega
  have hb4 : ¬ (GC = i) := by omega
  have hb5 : ¬ (cap = i) := by omega
  have hz2 : ¬ ((i : Int) = (n : Int)) := by omega
  have hin : i ≤ n := by omega
  have hic : i ≤ cap := by omega
  have hb1 : (0 : Int) ≤ (i : Int) + 1 := by omega
  have hik : (i : Int) + 1 ≤ (i : Int) + (k : Int) := by omega
  have hk1 : 1 ≤ k := by omega
  have HG := Lib.hid hG
  have HK := Lib.hid hk
  have HW0 := Lib.hid hW0
  have HW1 := Lib.hid hW1
  have mixed : Tryd.prog.follows Departure.mixedOrders = true := by kernel_rfl
  rw [← hG] at hrun ⊢
  clear FIN HE htake hat hg1 hs1 hcell hdl hcl h1c hcs hv hg hA hAs hAt hge hGm hGC hg0 old htl hz0 hz1 hi0 hzs hz hG hW0 hW1 hglt hvlt hk
  go_enter Tryd.func85, Tryd.ntmps85
  go_wp2_with (at_builtin; refine Lib.wpList_append_run _ rfl _ _ _ _ rfl _ _ rfl rfl _ _ (hrun _) ?_)
  go_wp2_with (at_builtin; refine wpList_copy_runI _ rfl _ _ 22 22 rfl _ _ rfl rfl (hcpA _ rfl _ _) ?_)
  rw [← HW1.out]
  have hcpC := hcpB W1.drew (fun _ => rfl) (fun _ => rfl)
  clear hcpB hcpA hrun
  go_region_law_o (refine step_copy_runI rfl _ _ 22 22 rfl _ _ (by simp [Act.eval, Act.put]) (by simp [Act.eval, Act.put]) (hcpC _ _ _) ?_)
  all_goals go_wp2
  all_goals go_ret
  all_goals exact ⟨GC, by rw [← HK.out]; rfl, HF.out _ (by rw [← drew_setCells]; rfl), by
    rw [HW1.out, HW0.out]
    exact gb_newSets (Nat.le_of_eq HG.out.symm) _ _ _ (gb_drew (gb_newSets (Nat.le_of_eq HG.out.symm) _ _ _ (gb_alloc (gb_drew (World.grownBy.refl _ _)) _)))⟩
set_option maxHeartbeats 1000000 in
theorem str_Insert (B : Nat) (v : Value) (xs : List ByteArray) (s : ByteArray) (i vb : Nat) (w : World) (hown : w.ownsRow B 9 1 v xs.length (strs xs)) (hB : B ≤ w.heap.size) (hn : xs.length ≤ 1000) (hi : i ≤ xs.length)
    (hv : w.heap[vb]? = some (.cells #[.string s] 9 (0, 0))) (hne : v.ownBlock ≠ some vb) :
    Calls Tryd.prog 85 #[v, .int .i64 i, .slice (some ⟨vb, 0, none⟩) 1 1] w fun e w' => ∃ a' c', e = .returned (.slice a' (xs.length + 1) c') ∧ w'.ownsRow B 9 1 (.slice a' (xs.length + 1) c') (xs.length + 1) (strs (insAtB xs s i)) ∧ w.grownBy w' v.ownBlock := by
  by_cases he : i = xs.length
  · subst he
    exact str_Insert_end B v xs s vb w hown hB hn hv
  · rcases hown.2 with ⟨rfl, h0⟩ | ⟨g, cap, cur, rfl, hbg, hg, hnc, hcm, hcs, htake⟩
    · omega
    · rw [Nat.mul_one] at hcs htake
      by_cases hroom : xs.length + 1 ≤ cap
      · refine (str_Insert_room B g cap i vb cur xs s w hbg hg (by omega) hroom hcm hcs htake hn hv (fun e => hne (by rw [e]; rfl))).mono ?_
        rintro e w' ⟨rfl, h1, h2⟩
        exact ⟨_, _, rfl, h1, h2⟩
      · refine (str_Insert_grow B g cap i vb cur xs s w hB hg (by omega) hnc (by omega) hcs htake hn hv).mono ?_
        rintro e w' ⟨GC, rfl, h1, h2⟩
        exact ⟨_, _, rfl, h1, h2⟩
end Go.Proofs.YtedkkegjiikcmaaDoor
namespace Go.Proofs.YtedkkegjiikcmaaDoor
open Go.RowKit Go.Shelf

theorem hasB_none {l : List ByteArray} {s : ByteArray} (hl : AscB l) (h : placeB l s = -1) : hasB l s = false := by
  cases hh : hasB l s with
  | false => rfl
  | true =>
    obtain ⟨j, hj, e⟩ := List.getElem_of_mem ((hasB_mem l s).1 hh)
    have := place_asc hl hj e
    omega
def SearchP (l : List ByteArray) (s : ByteArray) (e : Ending) : Prop := ∃ (k : Nat), e = .returned (.tuple #[.int .i64 k, .bool (hasB l s)]) ∧ k ≤ l.length ∧ posSB l s = k
set_option maxRecDepth 100000 in
set_option maxHeartbeats 4000000 in
theorem str_Place (va : Value) (l : List ByteArray) (s : ByteArray) (w : World) (ha : SlA w 1 va l.length (strs l)) (hl : AscB l) (hn : l.length ≤ 100000) :
    Calls Tryd.prog 84 #[va, .string s] w fun e w' => SearchP l s e ∧ w' = w := by
  have HA := Lib.hid ha
  have HL := Lib.hid hl
  have LS := Lib.hid (fun x W => cmp_LessS x s W)
  have NN := Lib.hid (fun x W => sl_isNaNs x W)
  obtain ⟨ao, cap, rfl⟩ := ha.form
  clear ha hl
  go_enter Tryd.func84, Tryd.ntmps84
  go_wp2_with fail
  go_loop [7, 8] (fun iv jv => ∃ i j : Nat, i ≤ j ∧ j ≤ l.length ∧ iv = .int .i64 i ∧ jv = .int .i64 j ∧ Hid (∀ k (hk : k < l.length), k < i → cmpS l[k] s < 0) ∧ Hid (∀ k (hk : k < l.length), j ≤ k → 0 ≤ cmpS l[k] s)) (fun iv jv => (intOf jv).toNat - (intOf iv).toNat)
  case atStart => exact ⟨0, l.length, by omega, Nat.le_refl _, rfl, rfl, Lib.hid (fun _ _ h => absurd h (by omega)), Lib.hid (fun k hk h => absurd hk (by omega))⟩
  case round =>
    obtain ⟨i, j, hij, hj, rfl, rfl, H1, H2⟩ := hrel
    by_cases hlt : i < j
    · have e1 : IntKind.i64.wrap ((i : Int) + j) = i + j := Go.IntWalk.i64_in _ (by omega)
      have d : decide ((i : Int) < (j : Int)) = true := by rw [decide_eq_true_iff]; omega
      have hil : (i + j) / 2 < l.length := by omega
      obtain ⟨b1, o1, c1, he1, hc1, hm1, hb1, hx1⟩ := HA.out.pos (by omega)
      simp only [Value.slice.injEq, true_and] at he1
      obtain ⟨rfl, rfl⟩ := he1
      have p0 := hx1 ((i + j) / 2) _ (strs_get hil)
      have e3 : IntKind.i64.wrap (((i : Int) + j) / 2 + 1) = ((i : Int) + j) / 2 + 1 := Go.IntWalk.i64_in _ (by omega)
      have SY := Lib.hid (fun e => search_yes HL.out (s := s) hil e)
      have SN := Lib.hid (fun (e : 0 ≤ cmpS l[(i + j) / 2] s) k hk h => Int.not_lt.1 (search_no HL.out (s := s) hil (Int.not_lt.2 e) k hk h))
      clear hx1
      generalize l[(i + j) / 2] = x at p0 SY SN
      go_wp2_with fail
      refine (LS.out _ _).mono ?_
      rintro e w1 ⟨rfl, rfl⟩
      by_cases hc : cmpS x s < 0
      · have dc : decide (cmpS x s < 0) = true := decide_eq_true hc
        have H3 := Lib.hid (SY.out hc)
        rw [dc]
        clear hc SY SN
        go_wp2
        exact ⟨⟨(i + j) / 2 + 1, j, by omega, hj, congrArg (Value.int .i64) (by omega), rfl, H3, H2⟩, by simp [intOf]; omega⟩
      · have dc : decide (cmpS x s < 0) = false := decide_eq_false hc
        have H3 := Lib.hid (SN.out (Int.not_lt.1 hc))
        rw [dc]
        clear hc SY SN
        go_wp2
        exact ⟨⟨i, (i + j) / 2, by omega, by omega, rfl, congrArg (Value.int .i64) (by omega), H1, H3⟩, by simp [intOf]; omega⟩
    · obtain rfl : i = j := by omega
      have d : decide ((i : Int) < (i : Int)) = false := by rw [decide_eq_false_iff_not]; omega
      by_cases hil : i < l.length
      · obtain ⟨b1, o1, c1, he1, hc1, hm1, hb1, hx1⟩ := HA.out.pos (by omega)
        simp only [Value.slice.injEq, true_and] at he1
        obtain ⟨rfl, rfl⟩ := he1
        have p0 := hx1 i _ (strs_get hil)
        have d2 : decide ((i : Int) < (l.length : Int)) = true := by rw [decide_eq_true_iff]; omega
        clear hx1
        by_cases he : l[i] = s
        · have R := Lib.hid (show hasB l s = true ∧ posSB l s = i from ⟨hasB_yes hil he, pos_ofB l s i hj H1.out (fun hk => Int.not_lt.2 (H2.out i hk (Nat.le_refl _)))⟩)
          rw [he] at p0
          clear he
          go_wp2
          refine bodyPost_ret (v := .tuple #[.int .i64 i, .bool true]) (by simp [results, Tryd.results84, go_sem]) rfl ⟨⟨i, by rw [R.out.1], hj, R.out.2⟩, rfl⟩
        · have R := Lib.hid (show hasB l s = false ∧ posSB l s = i from ⟨hasB_none HL.out (place_gap HL.out H1.out (fun k hk h => Int.not_lt.2 (H2.out k hk h)) (fun _ => he) HL.out), pos_ofB l s i hj H1.out (fun hk => Int.not_lt.2 (H2.out i hk (Nat.le_refl _)))⟩)
          have hne := beq_str l[i] s
          rw [decide_eq_false he] at hne
          clear he
          generalize l[i] = x at p0 hne
          go_wp2_with fail
          refine (NN.out _ _).mono ?_
          rintro e w1 ⟨rfl, rfl⟩
          go_wp2
          refine bodyPost_ret (v := .tuple #[.int .i64 i, .bool false]) (by simp [results, Tryd.results84, go_sem]) rfl ⟨⟨i, by rw [R.out.1], hj, R.out.2⟩, rfl⟩
      · have R := Lib.hid (show hasB l s = false ∧ posSB l s = i from ⟨hasB_none HL.out (place_gap HL.out H1.out (fun k hk h => Int.not_lt.2 (H2.out k hk h)) (fun h => absurd h hil) HL.out), pos_ofB l s i hj H1.out (fun hk => Int.not_lt.2 (H2.out i hk (Nat.le_refl _)))⟩)
        have d2 : decide ((i : Int) < (l.length : Int)) = false := by rw [decide_eq_false_iff_not]; omega
        go_wp2
        refine bodyPost_ret (v := .tuple #[.int .i64 i, .bool false]) (by simp [results, Tryd.results84, go_sem]) rfl ⟨⟨i, by rw [R.out.1], hj, R.out.2⟩, rfl⟩
end Go.Proofs.YtedkkegjiikcmaaDoor
namespace Go.Proofs.YtedkkegjiikcmaaDoor
open Go.RowKit Go.Shelf

theorem gb_far {a b c : World} {r q : Option Nat} (h : a.grownBy b r) (h2 : b.grownBy c q) (hq : ∀ k, q = some k → a.heap.size ≤ k) : a.grownBy c r :=
  ⟨h2.os.trans h.os, h2.tape.trans h.tape, h2.output.trans h.output, Nat.le_trans h.size h2.size, fun i hi hne => (h2.block i (Nat.lt_of_lt_of_le hi h.size) (fun e => by have := hq i e.symm; omega)).trans (h.block i hi hne)⟩
set_option maxRecDepth 100000 in
set_option maxHeartbeats 8000000 in
theorem qr_who (r : Rd) (few : Int) (w0 w : World) (g : Nat) (h : RdAt w0 w g r) (hn : r.l.length ≤ 1000) :
    Calls Tryd.prog 46 #[.pointer (some ⟨g, 0, none⟩), .int .i64 few] w fun e w' => ∃ a c, e = .returned (.slice a (r.who few).1.length c) ∧ RdAt w0 w' g (r.who few).2 ∧ w'.ownsRow w.heap.size 9 1 (.slice a (r.who few).1.length c) (r.who few).1.length (strs (r.who few).1) ∧ w.grownBy w' (some g) := by
  have hglt := h.lt
  have hlow0 := h.below.size
  obtain ⟨N, hN⟩ : ∃ N, N = r.l.length := ⟨_, rfl⟩
  rw [← hN] at hn
  have START : ∃ (acc : List ByteArray) (R : Rd), acc.length = 0 ∧ 0 ≤ N + 1 ∧ RdAt w0 w g R ∧ ((R.why = 0 ∧ whoT few R.l 0 acc R.e R.p = r.who few ∧ AscB acc ∧ acc.length ≤ 12 ∧ 0 + R.l.length = N) ∨ (¬ R.why = 0 ∧ (acc, R) = r.who few)) := by
    refine ⟨[], r, rfl, by omega, h, ?_⟩
    by_cases hy : r.why = 0
    · exact .inl ⟨hy, (if_neg (fun h => h hy)).symm, List.Pairwise.nil, by simp, by omega⟩
    · exact .inr ⟨hy, (if_pos hy).symm⟩
  have HS := Lib.hid START
  clear START h hN
  generalize r.who few = res at HS ⊢
  go_enter Tryd.func46, Tryd.ntmps46
  go_wp2_with fail
  go_loopw [4, 5] (fun v n wr => ∃ (k : Nat) (acc : List ByteArray) (R : Rd), n = .int .i64 k ∧ k ≤ N + 1 ∧ Hid (RdAt w0 wr g R) ∧ Hid (wr.ownsRow w.heap.size 9 1 v acc.length (strs acc)) ∧ Hid (w.grownBy wr (some g)) ∧ ((R.why = 0 ∧ whoT few R.l k acc R.e R.p = res ∧ Hid (AscB acc) ∧ acc.length ≤ 12 ∧ k + R.l.length = N) ∨ (¬ R.why = 0 ∧ (acc, R) = res))) (fun _ n _ => N + 2 - (intOf n).toNat)
  case atStart =>
    obtain ⟨acc, R, h0, _, hr, hst⟩ := HS.out
    obtain rfl := List.eq_nil_of_length_eq_zero h0
    refine ⟨0, [], R, rfl, by omega, Lib.hid hr, Lib.hid (World.ownsRow_nil _ _ _ _), Lib.hid (World.grownBy.refl _ _), ?_⟩
    rcases hst with ⟨a, b, c, d, e⟩ | h
    · exact .inl ⟨a, b, Lib.hid c, d, e⟩
    · exact .inr h
  case round =>
    clear HS
    obtain ⟨k, acc, R, rfl, hk, HR, HO, HG, hst⟩ := hrel
    obtain ⟨ao, ac, rfl⟩ := own_form HO.out
    obtain ⟨rest, e1, p1, y1⟩ := R
    have hbel := HR.out.below
    obtain ⟨lv, hs, hblk⟩ := HR.out.row
    have c0 := hblk.cell 0 lv rfl
    have c3 := hblk.cell 3 (.int .i64 y1) rfl
    dsimp only at hst hs
    rcases hst with ⟨rfl, hw, hasc, h12, hsum⟩ | ⟨hy, hres⟩
    · cases rest with
      | nil =>
        obtain ⟨la, lc, rfl⟩ := hs.form
        by_cases hf : (k : Int) < few
        · have d : decide ((k : Int) < few) = true := decide_eq_true hf
          have WT := Lib.hid (show res = (insSB acc emp, ⟨[], e1, e1, 3⟩) by rw [← hw]; unfold whoT; exact if_pos hf)
          clear hs hblk hbel hw hf
          have KD := Lib.hid (fun W (h : RdAt w0 W g _) => qkind_pair (take_nil e1 p1 1) w0 W g h)
          go_wp2_with fail
          refine (KD.out _ HR.out).mono ?_
          rintro e2 w2 ⟨rfl, hr2, hg2⟩
          have HO2 := Lib.hid (HO.out.kept hg2 (.inr (fun e => by have := (HO.out.lt g e).1; omega)))
          have HR2 := Lib.hid hr2
          have HG2 := Lib.hid (gb_trans HG.out hg2)
          have hws : w.heap.size ≤ w2.heap.size := HG2.out.size
          clear hr2 hg2 KD
          go_wp2_with fail
          refine (str_Place _ acc (emp) w2 (Sl.of_own HO2.out).a hasc.out (by omega)).mono ?_
          rintro e3 w3 ⟨⟨kk, rfl, hkk, hpos⟩, rfl⟩
          cases hh : hasB acc (emp) with
          | true =>
            have EI := Lib.hid (insS_hasB hh)
            clear hh hpos
            go_wp2
            exact ⟨⟨k + 1, insSB acc emp, ⟨[], e1, e1, 3⟩, by go_num, by (try simp only [List.length_cons, List.length_nil] at hsum); omega, HR2, by rw [EI.out]; exact HO2, HG2, .inr ⟨(show ¬ (3 : Int) = 0 by decide), by rw [← WT.out]⟩⟩, by simp [intOf]; omega⟩
          | false =>
            have EI := Lib.hid (show insSB acc (emp) = insAtB acc (emp) kk by rw [insS_notB hh, hpos])
            have EL := Lib.hid (insS_len1 hh)
            have EM := Lib.hid hh
            have HO3 := Lib.hid (own_below HO2.out ((Below.refl _ _).alloc (Nat.le_refl _) (.cells #[.string (emp)] 9)))
            have INS := Lib.hid (str_Insert w.heap.size _ acc (emp) kk w3.heap.size (w3.alloc (.cells #[.string (emp)] 9)) HO3.out (by simp; omega) (by omega) hkk (heap_alloc_new _ _) (fun e => by have := (HO2.out.lt _ e).2; omega))
            clear hh hpos
            go_wp2_with fail
            refine INS.out.mono ?_
            rintro e4 w4 ⟨a4, c4, rfl, hown4, hg4⟩
            have HR4 := Lib.hid ((HR2.out.alloc (.cells #[.string (emp)] 9)).grown hg4 (fun e => by have := (HO2.out.lt g e.symm).1; omega) (fun j e => by have := (HO2.out.lt j e).1; omega))
            have HG4 := Lib.hid (gb_far (gb_alloc HG2.out (.cells #[.string (emp)] 9)) hg4 (fun j e => (HO2.out.lt j e).1))
            have HO4 := Lib.hid (show w4.ownsRow w.heap.size 9 1 (.slice a4 (acc.length + 1) c4) (insSB acc (emp)).length (strs (insSB acc (emp))) by rw [EL.out, EI.out]; exact hown4)
            clear hown4 hg4 INS
            go_wp2
            exact ⟨⟨k + 1, insSB acc emp, ⟨[], e1, e1, 3⟩, by go_num, by (try simp only [List.length_cons, List.length_nil] at hsum); omega, HR4, HO4, HG4, .inr ⟨(show ¬ (3 : Int) = 0 by decide), by rw [← WT.out]⟩⟩, by simp [intOf]; omega⟩
        · have d : decide ((k : Int) < few) = false := decide_eq_false hf
          have WT := Lib.hid (show res = (acc, ⟨[], e1, p1, 0⟩) by rw [← hw]; unfold whoT; exact if_neg hf)
          clear hs hblk hbel hw hf
          go_wp2
          go_ret
          rw [WT.out]
          exact ⟨ao, ac, rfl, HR.out, HO.out, HG.out⟩
      | cons t tl =>
        obtain ⟨b, off, cap, rfl, hc, hm, hlt, hx⟩ := hs.pos (by simp)
        obtain ⟨t0, t1, _⟩ := tk_head (Sl.cells_later hbel hlt hx)
        have hbw : b < wr.heap.size := Nat.lt_of_lt_of_le hlt hbel.size
        have d1 : decide ((0 : Int) < (tl.length : Int) + 1) = true := by (rw [decide_eq_true_iff]; omega)
        clear hs hblk hbel hx
        by_cases hf : (k : Int) < few
        · have d : decide ((k : Int) < few) = true := decide_eq_true hf
          clear hf
          by_cases h1 : t.kind = 1
          · by_cases hm12 : acc.length = 12
            · have dm : ((acc.length : Int) == 12) = true := by rw [beq_iff_eq]; omega
              have CT := Lib.hid (str_ContainsC _ acc t.tx wr (Sl.of_own HO.out).a)
              have HM12 := Lib.hid hm12
              by_cases hh : hasB acc t.tx = true
              · have WT := Lib.hid (show res = whoT few tl (k + 1) (insSB acc t.tx) e1 p1 by rw [← hw]; show whoT few (t :: tl) k acc e1 p1 = _; rw [whoT, if_pos h1, if_neg (fun x => by rw [hh] at x; cases x.2)])
                rw [hh] at CT
                have HHT := Lib.hid hh
                have TK := Lib.hid (take_yes t tl e1 p1 1 h1)
                clear hw hh hm12
                go_wp2_with fail
                refine CT.out.mono ?_
                rintro e0 w00 ⟨rfl, rfl⟩
                have KD := Lib.hid (fun W (h : RdAt w0 W g _) => qkind_pair (TK.out) w0 W g h)
                go_wp2_with fail
                refine (KD.out _ HR.out).mono ?_
                rintro e2 w2 ⟨rfl, hr2, hg2⟩
                have HO2 := Lib.hid (HO.out.kept hg2 (.inr (fun e => by have := (HO.out.lt g e).1; omega)))
                have HR2 := Lib.hid hr2
                have HG2 := Lib.hid (gb_trans HG.out hg2)
                have hws : w.heap.size ≤ w2.heap.size := HG2.out.size
                clear hr2 hg2 KD
                go_wp2_with fail
                refine (str_Place _ acc (t.tx) w2 (Sl.of_own HO2.out).a hasc.out (by omega)).mono ?_
                rintro e3 w3 ⟨⟨kk, rfl, hkk, hpos⟩, rfl⟩
                cases hh : hasB acc (t.tx) with
                | true =>
                  have EI := Lib.hid (insS_hasB hh)
                  clear hh hpos
                  go_wp2
                  exact ⟨⟨k + 1, insSB acc t.tx, ⟨tl, e1, p1, 0⟩, by go_num, by (try simp only [List.length_cons, List.length_nil] at hsum); omega, HR2, by rw [EI.out]; exact HO2, HG2, .inl ⟨rfl, by rw [← WT.out], by rw [EI.out]; exact hasc, by rw [EI.out]; exact h12, by (try simp only [List.length_cons, List.length_nil] at hsum); (try dsimp only); omega⟩⟩, by simp [intOf]; omega⟩
                | false =>
                  have EI := Lib.hid (show insSB acc (t.tx) = insAtB acc (t.tx) kk by rw [insS_notB hh, hpos])
                  have EL := Lib.hid (insS_len1 hh)
                  have EM := Lib.hid hh
                  have HO3 := Lib.hid (own_below HO2.out ((Below.refl _ _).alloc (Nat.le_refl _) (.cells #[.string (t.tx)] 9)))
                  have INS := Lib.hid (str_Insert w.heap.size _ acc (t.tx) kk w3.heap.size (w3.alloc (.cells #[.string (t.tx)] 9)) HO3.out (by simp; omega) (by omega) hkk (heap_alloc_new _ _) (fun e => by have := (HO2.out.lt _ e).2; omega))
                  clear hh hpos
                  go_wp2_with fail
                  refine INS.out.mono ?_
                  rintro e4 w4 ⟨a4, c4, rfl, hown4, hg4⟩
                  have HR4 := Lib.hid ((HR2.out.alloc (.cells #[.string (t.tx)] 9)).grown hg4 (fun e => by have := (HO2.out.lt g e.symm).1; omega) (fun j e => by have := (HO2.out.lt j e).1; omega))
                  have HG4 := Lib.hid (gb_far (gb_alloc HG2.out (.cells #[.string (t.tx)] 9)) hg4 (fun j e => (HO2.out.lt j e).1))
                  have HO4 := Lib.hid (show w4.ownsRow w.heap.size 9 1 (.slice a4 (acc.length + 1) c4) (insSB acc (t.tx)).length (strs (insSB acc (t.tx))) by rw [EL.out, EI.out]; exact hown4)
                  clear hown4 hg4 INS
                  go_wp2
                  exact ⟨⟨k + 1, insSB acc t.tx, ⟨tl, e1, p1, 0⟩, by go_num, by (try simp only [List.length_cons, List.length_nil] at hsum); omega, HR4, HO4, HG4, .inl ⟨rfl, by rw [← WT.out], Lib.hid (insS_ascB hasc.out _), by rw [EL.out]; have := EM.out; rw [HHT.out] at this; exact absurd this (by decide), by (try simp only [List.length_cons, List.length_nil] at hsum); (try dsimp only); omega⟩⟩, by simp [intOf]; omega⟩
              · have hf : hasB acc t.tx = false := by simpa using hh
                have WT := Lib.hid (show res = ([], ⟨t :: tl, e1, t.col, 5⟩) by rw [← hw]; show whoT few (t :: tl) k acc e1 p1 = _; rw [whoT, if_pos h1, if_pos ⟨hm12, hf⟩])
                rw [hf] at CT
                have FA := Lib.hid (fun W (h : RdAt w0 W g ⟨t :: tl, e1, p1, 0⟩) => qr_fail ⟨t :: tl, e1, p1, 0⟩ w0 W g 5 h)
                rw [failQ_cons] at FA
                clear hw hh hf hm12
                go_wp2_with fail
                refine CT.out.mono ?_
                rintro e0 w00 ⟨rfl, rfl⟩
                go_wp2_with fail
                refine (FA.out _ HR.out).mono ?_
                rintro e2 w2 ⟨rfl, hr2, hg2⟩
                have HR2 := Lib.hid hr2
                have HG2 := Lib.hid (gb_trans HG.out hg2)
                clear hr2 hg2
                go_wp2
                go_ret
                rw [WT.out]
                exact ⟨none, 0, rfl, HR2.out, World.ownsRow_nil _ _ _ _, HG2.out⟩
            · have dm : ((acc.length : Int) == 12) = false := by rw [beq_eq_false_iff_ne]; omega
              have WT := Lib.hid (show res = whoT few tl (k + 1) (insSB acc t.tx) e1 p1 by rw [← hw]; show whoT few (t :: tl) k acc e1 p1 = _; rw [whoT, if_pos h1, if_neg (fun x => hm12 x.1)])
              have TK := Lib.hid (take_yes t tl e1 p1 1 h1)
              clear hw
              have KD := Lib.hid (fun W (h : RdAt w0 W g _) => qkind_pair (TK.out) w0 W g h)
              go_wp2_with fail
              refine (KD.out _ HR.out).mono ?_
              rintro e2 w2 ⟨rfl, hr2, hg2⟩
              have HO2 := Lib.hid (HO.out.kept hg2 (.inr (fun e => by have := (HO.out.lt g e).1; omega)))
              have HR2 := Lib.hid hr2
              have HG2 := Lib.hid (gb_trans HG.out hg2)
              have hws : w.heap.size ≤ w2.heap.size := HG2.out.size
              clear hr2 hg2 KD
              go_wp2_with fail
              refine (str_Place _ acc (t.tx) w2 (Sl.of_own HO2.out).a hasc.out (by omega)).mono ?_
              rintro e3 w3 ⟨⟨kk, rfl, hkk, hpos⟩, rfl⟩
              cases hh : hasB acc (t.tx) with
              | true =>
                have EI := Lib.hid (insS_hasB hh)
                clear hh hpos
                go_wp2
                exact ⟨⟨k + 1, insSB acc t.tx, ⟨tl, e1, p1, 0⟩, by go_num, by (try simp only [List.length_cons, List.length_nil] at hsum); omega, HR2, by rw [EI.out]; exact HO2, HG2, .inl ⟨rfl, by rw [← WT.out], by rw [EI.out]; exact hasc, by rw [EI.out]; exact h12, by (try simp only [List.length_cons, List.length_nil] at hsum); (try dsimp only); omega⟩⟩, by simp [intOf]; omega⟩
              | false =>
                have EI := Lib.hid (show insSB acc (t.tx) = insAtB acc (t.tx) kk by rw [insS_notB hh, hpos])
                have EL := Lib.hid (insS_len1 hh)
                have EM := Lib.hid hh
                have HO3 := Lib.hid (own_below HO2.out ((Below.refl _ _).alloc (Nat.le_refl _) (.cells #[.string (t.tx)] 9)))
                have INS := Lib.hid (str_Insert w.heap.size _ acc (t.tx) kk w3.heap.size (w3.alloc (.cells #[.string (t.tx)] 9)) HO3.out (by simp; omega) (by omega) hkk (heap_alloc_new _ _) (fun e => by have := (HO2.out.lt _ e).2; omega))
                clear hh hpos
                go_wp2_with fail
                refine INS.out.mono ?_
                rintro e4 w4 ⟨a4, c4, rfl, hown4, hg4⟩
                have HR4 := Lib.hid ((HR2.out.alloc (.cells #[.string (t.tx)] 9)).grown hg4 (fun e => by have := (HO2.out.lt g e.symm).1; omega) (fun j e => by have := (HO2.out.lt j e).1; omega))
                have HG4 := Lib.hid (gb_far (gb_alloc HG2.out (.cells #[.string (t.tx)] 9)) hg4 (fun j e => (HO2.out.lt j e).1))
                have HO4 := Lib.hid (show w4.ownsRow w.heap.size 9 1 (.slice a4 (acc.length + 1) c4) (insSB acc (t.tx)).length (strs (insSB acc (t.tx))) by rw [EL.out, EI.out]; exact hown4)
                clear hown4 hg4 INS
                go_wp2
                exact ⟨⟨k + 1, insSB acc t.tx, ⟨tl, e1, p1, 0⟩, by go_num, by (try simp only [List.length_cons, List.length_nil] at hsum); omega, HR4, HO4, HG4, .inl ⟨rfl, by rw [← WT.out], Lib.hid (insS_ascB hasc.out _), by rw [EL.out]; omega, by (try simp only [List.length_cons, List.length_nil] at hsum); (try dsimp only); omega⟩⟩, by simp [intOf]; omega⟩
          · have dk : (t.kind == 1) = false := by simp [h1]
            have WT := Lib.hid (show res = (insSB acc emp, ⟨t :: tl, e1, t.col, 2⟩) by rw [← hw]; show whoT few (t :: tl) k acc e1 p1 = _; rw [whoT, if_neg h1])
            have TK := Lib.hid (take_no t tl e1 p1 1 h1)
            clear hw h1
            have KD := Lib.hid (fun W (h : RdAt w0 W g _) => qkind_pair (TK.out) w0 W g h)
            go_wp2_with fail
            refine (KD.out _ HR.out).mono ?_
            rintro e2 w2 ⟨rfl, hr2, hg2⟩
            have HO2 := Lib.hid (HO.out.kept hg2 (.inr (fun e => by have := (HO.out.lt g e).1; omega)))
            have HR2 := Lib.hid hr2
            have HG2 := Lib.hid (gb_trans HG.out hg2)
            have hws : w.heap.size ≤ w2.heap.size := HG2.out.size
            clear hr2 hg2 KD
            go_wp2_with fail
            refine (str_Place _ acc (emp) w2 (Sl.of_own HO2.out).a hasc.out (by omega)).mono ?_
            rintro e3 w3 ⟨⟨kk, rfl, hkk, hpos⟩, rfl⟩
            cases hh : hasB acc (emp) with
            | true =>
              have EI := Lib.hid (insS_hasB hh)
              clear hh hpos
              go_wp2
              exact ⟨⟨k + 1, insSB acc emp, ⟨t :: tl, e1, t.col, 2⟩, by go_num, by (try simp only [List.length_cons, List.length_nil] at hsum); omega, HR2, by rw [EI.out]; exact HO2, HG2, .inr ⟨(show ¬ (2 : Int) = 0 by decide), by rw [← WT.out]⟩⟩, by simp [intOf]; omega⟩
            | false =>
              have EI := Lib.hid (show insSB acc (emp) = insAtB acc (emp) kk by rw [insS_notB hh, hpos])
              have EL := Lib.hid (insS_len1 hh)
              have EM := Lib.hid hh
              have HO3 := Lib.hid (own_below HO2.out ((Below.refl _ _).alloc (Nat.le_refl _) (.cells #[.string (emp)] 9)))
              have INS := Lib.hid (str_Insert w.heap.size _ acc (emp) kk w3.heap.size (w3.alloc (.cells #[.string (emp)] 9)) HO3.out (by simp; omega) (by omega) hkk (heap_alloc_new _ _) (fun e => by have := (HO2.out.lt _ e).2; omega))
              clear hh hpos
              go_wp2_with fail
              refine INS.out.mono ?_
              rintro e4 w4 ⟨a4, c4, rfl, hown4, hg4⟩
              have HR4 := Lib.hid ((HR2.out.alloc (.cells #[.string (emp)] 9)).grown hg4 (fun e => by have := (HO2.out.lt g e.symm).1; omega) (fun j e => by have := (HO2.out.lt j e).1; omega))
              have HG4 := Lib.hid (gb_far (gb_alloc HG2.out (.cells #[.string (emp)] 9)) hg4 (fun j e => (HO2.out.lt j e).1))
              have HO4 := Lib.hid (show w4.ownsRow w.heap.size 9 1 (.slice a4 (acc.length + 1) c4) (insSB acc (emp)).length (strs (insSB acc (emp))) by rw [EL.out, EI.out]; exact hown4)
              clear hown4 hg4 INS
              go_wp2
              exact ⟨⟨k + 1, insSB acc emp, ⟨t :: tl, e1, t.col, 2⟩, by go_num, by (try simp only [List.length_cons, List.length_nil] at hsum); omega, HR4, HO4, HG4, .inr ⟨(show ¬ (2 : Int) = 0 by decide), by rw [← WT.out]⟩⟩, by simp [intOf]; omega⟩
        · have d : decide ((k : Int) < few) = false := decide_eq_false hf
          clear hf
          by_cases h1 : t.kind = 1
          · by_cases hm12 : acc.length = 12
            · have dm : ((acc.length : Int) == 12) = true := by rw [beq_iff_eq]; omega
              have CT := Lib.hid (str_ContainsC _ acc t.tx wr (Sl.of_own HO.out).a)
              have HM12 := Lib.hid hm12
              by_cases hh : hasB acc t.tx = true
              · have WT := Lib.hid (show res = whoT few tl (k + 1) (insSB acc t.tx) e1 p1 by rw [← hw]; show whoT few (t :: tl) k acc e1 p1 = _; rw [whoT, if_pos h1, if_neg (fun x => by rw [hh] at x; cases x.2)])
                rw [hh] at CT
                have HHT := Lib.hid hh
                have TK := Lib.hid (take_yes t tl e1 p1 1 h1)
                clear hw hh hm12
                go_wp2_with fail
                refine CT.out.mono ?_
                rintro e0 w00 ⟨rfl, rfl⟩
                have KD := Lib.hid (fun W (h : RdAt w0 W g _) => qkind_pair (TK.out) w0 W g h)
                go_wp2_with fail
                refine (KD.out _ HR.out).mono ?_
                rintro e2 w2 ⟨rfl, hr2, hg2⟩
                have HO2 := Lib.hid (HO.out.kept hg2 (.inr (fun e => by have := (HO.out.lt g e).1; omega)))
                have HR2 := Lib.hid hr2
                have HG2 := Lib.hid (gb_trans HG.out hg2)
                have hws : w.heap.size ≤ w2.heap.size := HG2.out.size
                clear hr2 hg2 KD
                go_wp2_with fail
                refine (str_Place _ acc (t.tx) w2 (Sl.of_own HO2.out).a hasc.out (by omega)).mono ?_
                rintro e3 w3 ⟨⟨kk, rfl, hkk, hpos⟩, rfl⟩
                cases hh : hasB acc (t.tx) with
                | true =>
                  have EI := Lib.hid (insS_hasB hh)
                  clear hh hpos
                  go_wp2
                  exact ⟨⟨k + 1, insSB acc t.tx, ⟨tl, e1, p1, 0⟩, by go_num, by (try simp only [List.length_cons, List.length_nil] at hsum); omega, HR2, by rw [EI.out]; exact HO2, HG2, .inl ⟨rfl, by rw [← WT.out], by rw [EI.out]; exact hasc, by rw [EI.out]; exact h12, by (try simp only [List.length_cons, List.length_nil] at hsum); (try dsimp only); omega⟩⟩, by simp [intOf]; omega⟩
                | false =>
                  have EI := Lib.hid (show insSB acc (t.tx) = insAtB acc (t.tx) kk by rw [insS_notB hh, hpos])
                  have EL := Lib.hid (insS_len1 hh)
                  have EM := Lib.hid hh
                  have HO3 := Lib.hid (own_below HO2.out ((Below.refl _ _).alloc (Nat.le_refl _) (.cells #[.string (t.tx)] 9)))
                  have INS := Lib.hid (str_Insert w.heap.size _ acc (t.tx) kk w3.heap.size (w3.alloc (.cells #[.string (t.tx)] 9)) HO3.out (by simp; omega) (by omega) hkk (heap_alloc_new _ _) (fun e => by have := (HO2.out.lt _ e).2; omega))
                  clear hh hpos
                  go_wp2_with fail
                  refine INS.out.mono ?_
                  rintro e4 w4 ⟨a4, c4, rfl, hown4, hg4⟩
                  have HR4 := Lib.hid ((HR2.out.alloc (.cells #[.string (t.tx)] 9)).grown hg4 (fun e => by have := (HO2.out.lt g e.symm).1; omega) (fun j e => by have := (HO2.out.lt j e).1; omega))
                  have HG4 := Lib.hid (gb_far (gb_alloc HG2.out (.cells #[.string (t.tx)] 9)) hg4 (fun j e => (HO2.out.lt j e).1))
                  have HO4 := Lib.hid (show w4.ownsRow w.heap.size 9 1 (.slice a4 (acc.length + 1) c4) (insSB acc (t.tx)).length (strs (insSB acc (t.tx))) by rw [EL.out, EI.out]; exact hown4)
                  clear hown4 hg4 INS
                  go_wp2
                  exact ⟨⟨k + 1, insSB acc t.tx, ⟨tl, e1, p1, 0⟩, by go_num, by (try simp only [List.length_cons, List.length_nil] at hsum); omega, HR4, HO4, HG4, .inl ⟨rfl, by rw [← WT.out], Lib.hid (insS_ascB hasc.out _), by rw [EL.out]; have := EM.out; rw [HHT.out] at this; exact absurd this (by decide), by (try simp only [List.length_cons, List.length_nil] at hsum); (try dsimp only); omega⟩⟩, by simp [intOf]; omega⟩
              · have hf : hasB acc t.tx = false := by simpa using hh
                have WT := Lib.hid (show res = ([], ⟨t :: tl, e1, t.col, 5⟩) by rw [← hw]; show whoT few (t :: tl) k acc e1 p1 = _; rw [whoT, if_pos h1, if_pos ⟨hm12, hf⟩])
                rw [hf] at CT
                have FA := Lib.hid (fun W (h : RdAt w0 W g ⟨t :: tl, e1, p1, 0⟩) => qr_fail ⟨t :: tl, e1, p1, 0⟩ w0 W g 5 h)
                rw [failQ_cons] at FA
                clear hw hh hf hm12
                go_wp2_with fail
                refine CT.out.mono ?_
                rintro e0 w00 ⟨rfl, rfl⟩
                go_wp2_with fail
                refine (FA.out _ HR.out).mono ?_
                rintro e2 w2 ⟨rfl, hr2, hg2⟩
                have HR2 := Lib.hid hr2
                have HG2 := Lib.hid (gb_trans HG.out hg2)
                clear hr2 hg2
                go_wp2
                go_ret
                rw [WT.out]
                exact ⟨none, 0, rfl, HR2.out, World.ownsRow_nil _ _ _ _, HG2.out⟩
            · have dm : ((acc.length : Int) == 12) = false := by rw [beq_eq_false_iff_ne]; omega
              have WT := Lib.hid (show res = whoT few tl (k + 1) (insSB acc t.tx) e1 p1 by rw [← hw]; show whoT few (t :: tl) k acc e1 p1 = _; rw [whoT, if_pos h1, if_neg (fun x => hm12 x.1)])
              have TK := Lib.hid (take_yes t tl e1 p1 1 h1)
              clear hw
              have KD := Lib.hid (fun W (h : RdAt w0 W g _) => qkind_pair (TK.out) w0 W g h)
              go_wp2_with fail
              refine (KD.out _ HR.out).mono ?_
              rintro e2 w2 ⟨rfl, hr2, hg2⟩
              have HO2 := Lib.hid (HO.out.kept hg2 (.inr (fun e => by have := (HO.out.lt g e).1; omega)))
              have HR2 := Lib.hid hr2
              have HG2 := Lib.hid (gb_trans HG.out hg2)
              have hws : w.heap.size ≤ w2.heap.size := HG2.out.size
              clear hr2 hg2 KD
              go_wp2_with fail
              refine (str_Place _ acc (t.tx) w2 (Sl.of_own HO2.out).a hasc.out (by omega)).mono ?_
              rintro e3 w3 ⟨⟨kk, rfl, hkk, hpos⟩, rfl⟩
              cases hh : hasB acc (t.tx) with
              | true =>
                have EI := Lib.hid (insS_hasB hh)
                clear hh hpos
                go_wp2
                exact ⟨⟨k + 1, insSB acc t.tx, ⟨tl, e1, p1, 0⟩, by go_num, by (try simp only [List.length_cons, List.length_nil] at hsum); omega, HR2, by rw [EI.out]; exact HO2, HG2, .inl ⟨rfl, by rw [← WT.out], by rw [EI.out]; exact hasc, by rw [EI.out]; exact h12, by (try simp only [List.length_cons, List.length_nil] at hsum); (try dsimp only); omega⟩⟩, by simp [intOf]; omega⟩
              | false =>
                have EI := Lib.hid (show insSB acc (t.tx) = insAtB acc (t.tx) kk by rw [insS_notB hh, hpos])
                have EL := Lib.hid (insS_len1 hh)
                have EM := Lib.hid hh
                have HO3 := Lib.hid (own_below HO2.out ((Below.refl _ _).alloc (Nat.le_refl _) (.cells #[.string (t.tx)] 9)))
                have INS := Lib.hid (str_Insert w.heap.size _ acc (t.tx) kk w3.heap.size (w3.alloc (.cells #[.string (t.tx)] 9)) HO3.out (by simp; omega) (by omega) hkk (heap_alloc_new _ _) (fun e => by have := (HO2.out.lt _ e).2; omega))
                clear hh hpos
                go_wp2_with fail
                refine INS.out.mono ?_
                rintro e4 w4 ⟨a4, c4, rfl, hown4, hg4⟩
                have HR4 := Lib.hid ((HR2.out.alloc (.cells #[.string (t.tx)] 9)).grown hg4 (fun e => by have := (HO2.out.lt g e.symm).1; omega) (fun j e => by have := (HO2.out.lt j e).1; omega))
                have HG4 := Lib.hid (gb_far (gb_alloc HG2.out (.cells #[.string (t.tx)] 9)) hg4 (fun j e => (HO2.out.lt j e).1))
                have HO4 := Lib.hid (show w4.ownsRow w.heap.size 9 1 (.slice a4 (acc.length + 1) c4) (insSB acc (t.tx)).length (strs (insSB acc (t.tx))) by rw [EL.out, EI.out]; exact hown4)
                clear hown4 hg4 INS
                go_wp2
                exact ⟨⟨k + 1, insSB acc t.tx, ⟨tl, e1, p1, 0⟩, by go_num, by (try simp only [List.length_cons, List.length_nil] at hsum); omega, HR4, HO4, HG4, .inl ⟨rfl, by rw [← WT.out], Lib.hid (insS_ascB hasc.out _), by rw [EL.out]; omega, by (try simp only [List.length_cons, List.length_nil] at hsum); (try dsimp only); omega⟩⟩, by simp [intOf]; omega⟩
          · have dk : (t.kind == 1) = false := by simp [h1]
            have WT := Lib.hid (show res = (insSB acc emp, ⟨t :: tl, e1, t.col, 2⟩) by rw [← hw]; show whoT few (t :: tl) k acc e1 p1 = _; rw [whoT, if_neg h1])
            have TK := Lib.hid (take_no t tl e1 p1 1 h1)
            clear hw h1
            have KD := Lib.hid (fun W (h : RdAt w0 W g _) => qkind_pair (TK.out) w0 W g h)
            go_wp2_with fail
            refine (KD.out _ HR.out).mono ?_
            rintro e2 w2 ⟨rfl, hr2, hg2⟩
            have HO2 := Lib.hid (HO.out.kept hg2 (.inr (fun e => by have := (HO.out.lt g e).1; omega)))
            have HR2 := Lib.hid hr2
            have HG2 := Lib.hid (gb_trans HG.out hg2)
            have hws : w.heap.size ≤ w2.heap.size := HG2.out.size
            clear hr2 hg2 KD
            go_wp2_with fail
            refine (str_Place _ acc (emp) w2 (Sl.of_own HO2.out).a hasc.out (by omega)).mono ?_
            rintro e3 w3 ⟨⟨kk, rfl, hkk, hpos⟩, rfl⟩
            cases hh : hasB acc (emp) with
            | true =>
              have EI := Lib.hid (insS_hasB hh)
              clear hh hpos
              go_wp2
              exact ⟨⟨k + 1, insSB acc emp, ⟨t :: tl, e1, t.col, 2⟩, by go_num, by (try simp only [List.length_cons, List.length_nil] at hsum); omega, HR2, by rw [EI.out]; exact HO2, HG2, .inr ⟨(show ¬ (2 : Int) = 0 by decide), by rw [← WT.out]⟩⟩, by simp [intOf]; omega⟩
            | false =>
              have EI := Lib.hid (show insSB acc (emp) = insAtB acc (emp) kk by rw [insS_notB hh, hpos])
              have EL := Lib.hid (insS_len1 hh)
              have EM := Lib.hid hh
              have HO3 := Lib.hid (own_below HO2.out ((Below.refl _ _).alloc (Nat.le_refl _) (.cells #[.string (emp)] 9)))
              have INS := Lib.hid (str_Insert w.heap.size _ acc (emp) kk w3.heap.size (w3.alloc (.cells #[.string (emp)] 9)) HO3.out (by simp; omega) (by omega) hkk (heap_alloc_new _ _) (fun e => by have := (HO2.out.lt _ e).2; omega))
              clear hh hpos
              go_wp2_with fail
              refine INS.out.mono ?_
              rintro e4 w4 ⟨a4, c4, rfl, hown4, hg4⟩
              have HR4 := Lib.hid ((HR2.out.alloc (.cells #[.string (emp)] 9)).grown hg4 (fun e => by have := (HO2.out.lt g e.symm).1; omega) (fun j e => by have := (HO2.out.lt j e).1; omega))
              have HG4 := Lib.hid (gb_far (gb_alloc HG2.out (.cells #[.string (emp)] 9)) hg4 (fun j e => (HO2.out.lt j e).1))
              have HO4 := Lib.hid (show w4.ownsRow w.heap.size 9 1 (.slice a4 (acc.length + 1) c4) (insSB acc (emp)).length (strs (insSB acc (emp))) by rw [EL.out, EI.out]; exact hown4)
              clear hown4 hg4 INS
              go_wp2
              exact ⟨⟨k + 1, insSB acc emp, ⟨t :: tl, e1, t.col, 2⟩, by go_num, by (try simp only [List.length_cons, List.length_nil] at hsum); omega, HR4, HO4, HG4, .inr ⟨(show ¬ (2 : Int) = 0 by decide), by rw [← WT.out]⟩⟩, by simp [intOf]; omega⟩
    · have d : (y1 == 0) = false := by simp [hy]
      clear hs hblk hbel hy
      go_wp2
      go_ret
      rw [← hres]
      exact ⟨ao, ac, rfl, HR.out, HO.out, HG.out⟩
end Go.Proofs.YtedkkegjiikcmaaDoor
namespace Go.Proofs.YtedkkegjiikcmaaDoor
open Go.RowKit Go.Shelf

theorem own_mono {w : World} {B B' size n : Nat} {e : TypeId} {v : Value} {xs : List Value} (h : w.ownsRow B e size v n xs) (hb : B' ≤ B) : w.ownsRow B' e size v n xs := by
  refine ⟨h.1, ?_⟩
  rcases h.2 with h2 | ⟨g, cap, cur, h1, h2, h3⟩
  · exact .inl h2
  · exact .inr ⟨g, cap, cur, h1, Nat.le_trans hb h2, h3⟩
end Go.Proofs.YtedkkegjiikcmaaDoor
