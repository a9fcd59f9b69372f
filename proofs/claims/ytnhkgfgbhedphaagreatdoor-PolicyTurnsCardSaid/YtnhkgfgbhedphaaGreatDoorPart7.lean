/- The plain law of queries: what the reader makes of any tokens is what the document says. Plain laws of statements and their lines: what is parsed may be; what may be is parsed from its line. strings.Builder, made by the call itself: copyCheck and WriteString at this program: the builder then holds what it held and the new bytes. (The library's own proofs, turned to this translation, in which the panic of copyCheck is refused.). strings.Builder's Grow, and strings.Join, at this program: the pieces with the separator between them. (The library's own proofs, turned to this translation, in which the panic of copyCheck is refused.). The line of a query, and its tokens. -/
import Derived.Test.YtnhkgfgbhedphaaGreatDoorPart6
import Derived.Test.YtnhkgfgbhedphaaGreatDoorPart3
import Derived.Test.YtnhkgfgbhedphaaGreatDoorPart1
import Derived.Shelf.Strings.BuilderK
import Derived.Test.YtnhkgfgbhedphaaGreatDoorShelf
import Derived.Shelf.Strings.OnBuilder
namespace Go.Proofs.YtnhkgfgbhedphaaGreatDoor

theorem want_why (l : List Tok) (e p y : Int) (f : Tok → Bool) (h : y ≠ 0) : (Rd.mk l e p y).want f = (emp, ⟨l, e, p, y⟩) := if_pos h
theorem want_nil (e p : Int) (f : Tok → Bool) : (Rd.mk [] e p 0).want f = (emp, ⟨[], e, e, 3⟩) := rfl
theorem want_no (t : Tok) (l : List Tok) (e p : Int) (f : Tok → Bool) (h : f t = false) : (Rd.mk (t :: l) e p 0).want f = (emp, ⟨t :: l, e, t.col, 2⟩) := by
  simp only [Rd.want, ne_eq, not_true_eq_false, if_false, h]; rfl
theorem want_yes (t : Tok) (l : List Tok) (e p : Int) (f : Tok → Bool) (h : f t = true) : (Rd.mk (t :: l) e p 0).want f = (t.tx, ⟨l, e, p, 0⟩) := by
  simp only [Rd.want, ne_eq, not_true_eq_false, if_false, if_pos h]; rfl
theorem who_why (l : List Tok) (e p y few : Int) (h : y ≠ 0) : (Rd.mk l e p y).who few = ([], ⟨l, e, p, y⟩) := if_pos h
theorem who_go (l : List Tok) (e p few : Int) : (Rd.mk l e p 0).who few = whoT few l 0 [] e p := if_neg (fun h => h rfl)
theorem endQ_why (l : List Tok) (e p y : Int) (q : Qd) (h : y ≠ 0) : (Rd.mk l e p y).endQ q = (noQd, p, y) := if_pos h
theorem endQ_nil (e p : Int) (q : Qd) : (Rd.mk [] e p 0).endQ q = (q, 0, 0) := rfl
theorem endQ_cons (t : Tok) (l : List Tok) (e p : Int) (q : Qd) : (Rd.mk (t :: l) e p 0).endQ q = (noQd, t.col, 2) := rfl
theorem fitQ_nil (k : Int) (i : Nat) : fitQ k i [] = 0 := by unfold fitQ; rfl
theorem fitQ_cons (k : Int) (i : Nat) (t : Tok) (l : List Tok) : fitQ k i (t :: l) = if i < frontQ k ∧ goesQ k i t = true then fitQ k (i + 1) l + 1 else 0 := by rw [fitQ]
theorem insS_pos (acc : List ByteArray) (x : ByteArray) : 0 < (insSB acc x).length := by
  cases h : hasB acc x with
  | true =>
    rw [insS_hasB h]
    cases acc with
    | nil => cases h
    | cons a r => simp
  | false => rw [insS_len1 h]; omega
theorem who_rest (k : Int) (a b : Rl) (hk : k = 1 ∨ k = 2 ∨ k = 3) (e p : Int) : ∀ (l : List Tok) (n : Nat) (acc : List ByteArray), acc.length ≤ 12 → (acc.length = 0 ↔ n = 0) →
    (whoT (leastI k) l n acc e p).2.endQ ⟨k, a, b, (whoT (leastI k) l n acc e p).1⟩ = restQ k ⟨k, a, b, acc⟩ e l
  | [], n, acc, h12, h0 => by
    by_cases hf : (n : Int) < leastI k
    · have h1 : k ≤ 2 ∧ acc.length = 0 := by
        rcases hk with rfl | rfl | rfl
        · have : leastI 1 = 1 := rfl
          exact ⟨by decide, h0.2 (by omega)⟩
        · have : leastI 2 = 1 := rfl
          exact ⟨by decide, h0.2 (by omega)⟩
        · have : leastI 3 = 0 := rfl
          omega
      rw [show whoT (leastI k) [] n acc e p = (insSB acc emp, ⟨[], e, e, 3⟩) by unfold whoT; exact if_pos hf, endQ_why _ _ _ _ _ (by decide)]
      unfold restQ
      rw [if_pos h1]
    · have h1 : ¬ (k ≤ 2 ∧ acc.length = 0) := by
        rintro ⟨h1, h2⟩
        have hn := h0.1 h2
        rcases hk with rfl | rfl | rfl
        · exact hf (by rw [hn]; decide)
        · exact hf (by rw [hn]; decide)
        · omega
      rw [show whoT (leastI k) [] n acc e p = (acc, ⟨[], e, p, 0⟩) by unfold whoT; exact if_neg hf, endQ_nil]
      unfold restQ
      rw [if_neg h1]
  | t :: l, n, acc, h12, h0 => by
    by_cases h1 : t.kind = 1
    · have hk3 : k ≤ 3 ∧ t.kind = 1 := ⟨by omega, h1⟩
      by_cases hm : acc.length = 12 ∧ hasB acc t.tx = false
      · rw [show whoT (leastI k) (t :: l) n acc e p = ([], ⟨t :: l, e, t.col, 5⟩) by rw [whoT, if_pos h1, if_pos hm], endQ_why _ _ _ _ _ (by decide)]
        rw [restQ, if_pos hk3, if_pos (by show 12 < (insSB acc t.tx).length; rw [insS_len1 hm.2]; omega)]
      · have hl : (insSB acc t.tx).length ≤ 12 := by
          cases h : hasB acc t.tx with
          | true => rw [insS_hasB h]; exact h12
          | false =>
            rw [insS_len1 h]
            have : ¬ acc.length = 12 := fun e => hm ⟨e, h⟩
            omega
        rw [show whoT (leastI k) (t :: l) n acc e p = whoT (leastI k) l (n + 1) (insSB acc t.tx) e p by rw [whoT, if_pos h1, if_neg hm]]
        rw [restQ, if_pos hk3, if_neg (by show ¬ 12 < (insSB acc t.tx).length; omega)]
        exact who_rest k a b hk e p l (n + 1) (insSB acc t.tx) hl ⟨fun h => by have := insS_pos acc t.tx; omega, fun h => by omega⟩
    · rw [show whoT (leastI k) (t :: l) n acc e p = (insSB acc emp, ⟨t :: l, e, t.col, 2⟩) by rw [whoT, if_neg h1], endQ_why _ _ _ _ _ (by decide)]
      rw [restQ, if_neg (fun h => h1 h.2)]
theorem tail_who (k : Int) (a : Rl) (hk : k = 1 ∨ k = 2 ∨ k = 3) (l : List Tok) (e p : Int) : tailQ k a ⟨l, e, p, 0⟩ = restQ k ⟨k, a, noR, []⟩ e l := by
  have hs : secB k = false := by rcases hk with rfl | rfl | rfl <;> rfl
  have hl : 0 ≤ leastI k := by rcases hk with rfl | rfl | rfl <;> decide
  unfold tailQ Rd.roleB Rd.whoB
  simp only [hs, hl, if_true, Bool.false_eq_true, if_false, who_go]
  exact who_rest k a noR hk e p l 0 [] (by simp) (by simp)
theorem tail_none (a : Rl) (l : List Tok) (e p : Int) : tailQ 4 a ⟨l, e, p, 0⟩ = restQ 4 ⟨4, a, noR, []⟩ e l := by
  have hs : secB 4 = false := rfl
  have hl : ¬ 0 ≤ leastI 4 := by decide
  unfold tailQ Rd.roleB Rd.whoB
  simp only [hs, hl, Bool.false_eq_true, if_false]
  cases l with
  | nil => rw [endQ_nil]; rfl
  | cons t l => rw [endQ_cons]; unfold restQ; rw [if_neg (by omega)]
theorem tail_why (k : Int) (a : Rl) (l : List Tok) (e p y : Int) (h : y ≠ 0) : tailQ k a ⟨l, e, p, y⟩ = (noQd, p, y) := by
  unfold tailQ Rd.roleB Rd.whoB
  have hr : (Rd.mk l e p y).role = (noR, ⟨l, e, p, y⟩) := by rw [role_def]; simp only [why_take _ _ _ _ _ h]; rfl
  have h1 : (if secB k = true then (Rd.mk l e p y).role else (noR, Rd.mk l e p y)) = (noR, ⟨l, e, p, y⟩) := by split <;> simp [hr]
  rw [h1]
  dsimp only
  have h2 : (if 0 ≤ leastI k then (Rd.mk l e p y).who (leastI k) else ([], Rd.mk l e p y)) = ([], ⟨l, e, p, y⟩) := by split <;> simp [who_why _ _ _ _ _ h]
  rw [h2]
  exact endQ_why _ _ _ _ _ h
theorem ask_why (l : List Tok) (e p y : Int) (u : Bool) (h : y ≠ 0) : (Rd.mk l e p y).ask u = (0, ⟨l, e, p, y⟩) := by
  unfold Rd.ask Rd.word
  rw [want_why _ _ _ _ _ h]
  rfl
theorem mid_why (l : List Tok) (e p y : Int) (u : Bool) (h : y ≠ 0) : midQ u ⟨l, e, p, y⟩ = (noQd, p, y) := by
  unfold midQ
  have hr : (Rd.mk l e p y).role = (noR, ⟨l, e, p, y⟩) := by rw [role_def]; simp only [why_take _ _ _ _ _ h]; rfl
  rw [hr]
  dsimp only
  rw [ask_why _ _ _ _ _ h]
  exact tail_why _ _ _ _ _ _ h
theorem tail_two (k : Int) (hk : k = 5 ∨ k = 6) (a : Rl) (l : List Tok) (e p : Int) : tailQ k a ⟨l, e, p, 0⟩ = (Rd.mk l e p 0).role.2.endQ ⟨k, a, (Rd.mk l e p 0).role.1, []⟩ := by
  have hs : secB k = true := by rcases hk with rfl | rfl <;> rfl
  have hl : ¬ 0 ≤ leastI k := by rcases hk with rfl | rfl <;> decide
  unfold tailQ Rd.roleB Rd.whoB
  simp only [hs, hl, if_true, if_false]
theorem want_cons (t : Tok) (l : List Tok) (e p : Int) (f : Tok → Bool) : (Rd.mk (t :: l) e p 0).want f = if f t = true then (t.tx, ⟨l, e, p, 0⟩) else (emp, ⟨t :: l, e, t.col, 2⟩) := by
  cases h : f t with
  | true => rw [want_yes _ _ _ _ _ h]; rfl
  | false => rw [want_no _ _ _ _ _ h]; rfl
theorem wordIn2 (a b : ByteArray) (t : Tok) : wordIn [a, b] t = (decide (t.kind = 2) && (decide (a = t.tx) || decide (b = t.tx))) := by simp [wordIn, hasB]
theorem wordIn1 (a : ByteArray) (t : Tok) : wordIn [a] t = (decide (t.kind = 2) && decide (a = t.tx)) := by simp [wordIn, hasB]
theorem wordIn4 (a b c d : ByteArray) (t : Tok) : wordIn [a, b, c, d] t = (decide (t.kind = 2) && (decide (a = t.tx) || decide (b = t.tx) || decide (c = t.tx) || decide (d = t.tx))) := by simp [wordIn, hasB, Bool.or_assoc]
theorem kindW_emp : kindW emp = 0 := by decide
theorem kw1 : kindW wHas = 1 := by decide
theorem kw2 : kindW wHave = 2 := by decide
theorem kw3 : kindW wWithin = 3 := by decide
theorem kw4 : kindW wBe = 4 := by decide
theorem kw5 : kindW wApart = 5 := by decide
theorem kw6 : kindW wIn = 6 := by decide
theorem g0 (k : Int) (t : Tok) : goesQ k 0 t = ((univB k && nameT t wAlways) || (!univB k && nameT t wCan)) := rfl
theorem g1 (k : Int) (t : Tok) : goesQ k 1 t = decide (t.kind = 1) := rfl
theorem g2 (k : Int) (t : Tok) : goesQ k 2 t = decide (t.kind = 3) := rfl
theorem g3 (k : Int) (t : Tok) : goesQ k 3 t = decide (t.kind = 2) := rfl
theorem g4 (k : Int) (t : Tok) : goesQ k 4 t = ((decide (k = 4) && nameT t wBe) || (!decide (k = 4) && nameT t (wordsQ k))) := rfl
theorem g5 (k : Int) (t : Tok) : goesQ k 5 t = ((decide (k = 4) && nameT t wEmpty) || (decide (5 ≤ k) && decide (t.kind = 1))) := rfl
theorem g6 (k : Int) (t : Tok) : goesQ k 6 t = (decide (5 ≤ k) && decide (t.kind = 3)) := rfl
theorem g7 (k : Int) (t : Tok) : goesQ k 7 t = (decide (5 ≤ k) && decide (t.kind = 2)) := rfl
theorem f1 : frontQ 1 = 5 := rfl
theorem f2 : frontQ 2 = 5 := rfl
theorem f3 : frontQ 3 = 5 := rfl
theorem f4 : frontQ 4 = 6 := rfl
theorem f5 : frontQ 5 = 8 := rfl
theorem f6 : frontQ 6 = 8 := rfl
theorem u1 : univB 1 = true := rfl
theorem u2 : univB 2 = false := rfl
theorem u3 : univB 3 = true := rfl
theorem u4 : univB 4 = false := rfl
theorem u5 : univB 5 = true := rfl
theorem u6 : univB 6 = true := rfl
theorem wq1 : wordsQ 1 = wHas := rfl
theorem wq2 : wordsQ 2 = wHave := rfl
theorem wq3 : wordsQ 3 = wWithin := rfl
theorem wq5 : wordsQ 5 = wApart := rfl
theorem wq6 : wordsQ 6 = wIn := rfl
theorem ne_ac : ¬ wAlways = wCan := by decide
theorem ne_ca : ¬ wCan = wAlways := by decide
set_option maxHeartbeats 8000000 in
theorem law_query (l : List Tok) (e : Int) : readQ l e = refQ l e := by
  unfold readQ Rd.word
  rcases l with _ | ⟨t0, l⟩
  · rw [want_nil, mid_why _ _ _ _ _ (by decide)]
    simp (decide := true) [refQ, endQ]
  by_cases h0 : t0.kind = 2
  rotate_left
  · rw [want_no _ _ _ _ _ (by simp [wordIn2, h0]), mid_why _ _ _ _ _ (by decide)]
    simp (decide := true) [refQ, fitQ_cons, endQ, bestQ, g0, nameT, h0]
  by_cases ha : t0.tx = wAlways
  · rw [want_yes _ _ _ _ _ (by simp [wordIn2, h0, ha]), ha, decide_eq_true rfl]
    unfold midQ Rd.ask Rd.word askW
    have hn : ¬ t0.tx = wCan := by rw [ha]; exact ne_ac
    rcases l with _ | ⟨t1, l⟩
    rotate_left
    by_cases h1 : t1.kind = 1
    rcases l with _ | ⟨t2, l⟩
    rotate_left
    by_cases h2 : t2.kind = 3
    rcases l with _ | ⟨t3, l⟩
    rotate_left
    by_cases h3 : t3.kind = 2
    rcases l with _ | ⟨t4, l⟩
    rotate_left
    by_cases h4 : t4.kind = 2
    rotate_left
    all_goals try (simp (decide := true) [role_def, take_no, take_yes, take_nil, why_take, want_nil, want_cons, want_why, wordIn4, kindW_emp, tail_why, refQ, fitQ_nil, fitQ_cons, endQ, bestQ, g0, g1, g2, g3, g4, u1, u2, u3, u4, u5, u6, nameT, *]; done)
    have R : (Rd.mk (t1 :: t2 :: t3 :: t4 :: l) e 0 0).role = (⟨t1.tx, t3.tx⟩, ⟨t4 :: l, e, 0, 0⟩) := by simp (decide := true) [role_def, take_yes, Tok.tx, *]
    rw [R]
    dsimp only
    by_cases c1 : t4.tx = wHas
    · have K1 : fitQ 1 0 (t0 :: t1 :: t2 :: t3 :: t4 :: l) = 5 := by
        cases l <;> simp (decide := true) [fitQ_nil, fitQ_cons, g0, g1, g2, g3, g4, u1, nameT, wq1, *]
      rw [if_pos rfl, want_yes _ _ _ _ _ (by simp [wordIn4, h4, c1]), c1, kw1, if_neg (by decide), tail_who 1 _ (by simp), refQ, if_pos K1]
      rfl
    have K1 : fitQ 1 0 (t0 :: t1 :: t2 :: t3 :: t4 :: l) = 4 := by simp (decide := true) [fitQ_cons, g0, g1, g2, g3, g4, u1, nameT, wq1, *]
    have K2 : fitQ 2 0 (t0 :: t1 :: t2 :: t3 :: t4 :: l) = 0 := by simp (decide := true) [fitQ_cons, g0, u2, nameT, *]
    have K4 : fitQ 4 0 (t0 :: t1 :: t2 :: t3 :: t4 :: l) = 0 := by simp (decide := true) [fitQ_cons, g0, u4, nameT, *]
    by_cases c3 : t4.tx = wWithin
    · have K3 : fitQ 3 0 (t0 :: t1 :: t2 :: t3 :: t4 :: l) = 5 := by
        cases l <;> simp (decide := true) [fitQ_nil, fitQ_cons, g0, g1, g2, g3, g4, u3, nameT, wq3, *]
      rw [if_pos rfl, want_yes _ _ _ _ _ (by simp [wordIn4, h4, c3]), c3, kw3, if_neg (by decide), tail_who 3 _ (by simp), refQ, if_neg (by omega), if_neg (by omega), if_pos K3]
      rfl
    have K3 : fitQ 3 0 (t0 :: t1 :: t2 :: t3 :: t4 :: l) = 4 := by simp (decide := true) [fitQ_cons, g0, g1, g2, g3, g4, u3, nameT, wq3, *]
    by_cases c5 : t4.tx = wApart
    · have K6 : fitQ 6 0 (t0 :: t1 :: t2 :: t3 :: t4 :: l) = 4 := by simp (decide := true) [fitQ_cons, g0, g1, g2, g3, g4, u6, nameT, wq6, *]
      rw [if_pos rfl, want_yes _ _ _ _ _ (by simp [wordIn4, h4, c5]), c5, kw5, if_neg (by decide), tail_two 5 (by simp)]
      have K5 : fitQ 5 0 (t0 :: t1 :: t2 :: t3 :: t4 :: l) = fitQ 5 5 l + 5 := by simp (decide := true) [fitQ_cons, g0, g1, g2, g3, g4, u5, nameT, wq5, *]
      have T1 : txQ (t0 :: t1 :: t2 :: t3 :: t4 :: l) 1 = t1.tx := rfl
      have T3 : txQ (t0 :: t1 :: t2 :: t3 :: t4 :: l) 3 = t3.tx := rfl
      have B : bestQ (t0 :: t1 :: t2 :: t3 :: t4 :: l) = fitQ 5 5 l + 5 := by unfold bestQ; omega
      rw [refQ, if_neg (by omega), if_neg (by omega), if_neg (by omega), if_neg (by omega), endQ, B, K5, K6, kindQ, kindQ, T1, T3]
      clear K1 K2 K3 K4 K5 K6 R T1 T3 B
      rcases l with _ | ⟨t5, l⟩
      rotate_left
      by_cases h5 : t5.kind = 1
      rcases l with _ | ⟨t6, l⟩
      rotate_left
      by_cases h6 : t6.kind = 3
      rcases l with _ | ⟨t7, l⟩
      rotate_left
      by_cases h7 : t7.kind = 2
      rcases l with _ | ⟨t8, l⟩
      all_goals simp [role_def, take_no, take_yes, take_nil, why_take, endQ_why, endQ_nil, endQ_cons, fitQ_nil, fitQ_cons, g5, g6, g7, f5, restQ, txQ, Tok.tx, *]
    have K5 : fitQ 5 0 (t0 :: t1 :: t2 :: t3 :: t4 :: l) = 4 := by simp (decide := true) [fitQ_cons, g0, g1, g2, g3, g4, u5, nameT, wq5, *]
    by_cases c6 : t4.tx = wIn
    · rw [if_pos rfl, want_yes _ _ _ _ _ (by simp [wordIn4, h4, c6]), c6, kw6, if_neg (by decide), tail_two 6 (by simp)]
      have K6 : fitQ 6 0 (t0 :: t1 :: t2 :: t3 :: t4 :: l) = fitQ 6 5 l + 5 := by simp (decide := true) [fitQ_cons, g0, g1, g2, g3, g4, u6, nameT, wq6, *]
      have T1 : txQ (t0 :: t1 :: t2 :: t3 :: t4 :: l) 1 = t1.tx := rfl
      have T3 : txQ (t0 :: t1 :: t2 :: t3 :: t4 :: l) 3 = t3.tx := rfl
      have B : bestQ (t0 :: t1 :: t2 :: t3 :: t4 :: l) = fitQ 6 5 l + 5 := by unfold bestQ; omega
      rw [refQ, if_neg (by omega), if_neg (by omega), if_neg (by omega), if_neg (by omega), endQ, B, K5, K6, kindQ, kindQ, T1, T3]
      clear K1 K2 K3 K4 K5 K6 R T1 T3 B
      rcases l with _ | ⟨t5, l⟩
      rotate_left
      by_cases h5 : t5.kind = 1
      rcases l with _ | ⟨t6, l⟩
      rotate_left
      by_cases h6 : t6.kind = 3
      rcases l with _ | ⟨t7, l⟩
      rotate_left
      by_cases h7 : t7.kind = 2
      rcases l with _ | ⟨t8, l⟩
      all_goals simp [role_def, take_no, take_yes, take_nil, why_take, endQ_why, endQ_nil, endQ_cons, fitQ_nil, fitQ_cons, g5, g6, g7, f6, restQ, txQ, Tok.tx, *]
    have K6 : fitQ 6 0 (t0 :: t1 :: t2 :: t3 :: t4 :: l) = 4 := by simp (decide := true) [fitQ_cons, g0, g1, g2, g3, g4, u6, nameT, wq6, *]
    have B : bestQ (t0 :: t1 :: t2 :: t3 :: t4 :: l) = 4 := by unfold bestQ; omega
    rw [if_pos rfl, want_no _ _ _ _ _ (by simp [wordIn4, Ne.symm c1, Ne.symm c3, Ne.symm c5, Ne.symm c6]), kindW_emp, if_neg (by decide), tail_why _ _ _ _ _ _ (by decide)]
    rw [refQ, if_neg (by omega), if_neg (by omega), if_neg (by omega), if_neg (by omega), if_neg (by omega), if_neg (by omega), endQ, B]
    rw [if_neg (by simp)]
    rfl
  by_cases hc : t0.tx = wCan
  · rw [want_yes _ _ _ _ _ (by simp [wordIn2, h0, hc]), hc, decide_eq_false ne_ca]
    unfold midQ Rd.ask Rd.word askW
    rcases l with _ | ⟨t1, l⟩
    rotate_left
    by_cases h1 : t1.kind = 1
    rcases l with _ | ⟨t2, l⟩
    rotate_left
    by_cases h2 : t2.kind = 3
    rcases l with _ | ⟨t3, l⟩
    rotate_left
    by_cases h3 : t3.kind = 2
    rcases l with _ | ⟨t4, l⟩
    rotate_left
    by_cases h4 : t4.kind = 2
    rotate_left
    all_goals try (simp (decide := true) [role_def, take_no, take_yes, take_nil, why_take, want_nil, want_cons, want_why, wordIn2, kindW_emp, tail_why, refQ, fitQ_nil, fitQ_cons, endQ, bestQ, g0, g1, g2, g3, g4, u1, u2, u3, u4, u5, u6, nameT, *]; done)
    have R : (Rd.mk (t1 :: t2 :: t3 :: t4 :: l) e 0 0).role = (⟨t1.tx, t3.tx⟩, ⟨t4 :: l, e, 0, 0⟩) := by simp [role_def, take_yes, Tok.tx, *]
    rw [R]
    dsimp only
    have K1 : fitQ 1 0 (t0 :: t1 :: t2 :: t3 :: t4 :: l) = 0 := by simp (decide := true) [fitQ_cons, g0, u1, nameT, *]
    have K3 : fitQ 3 0 (t0 :: t1 :: t2 :: t3 :: t4 :: l) = 0 := by simp (decide := true) [fitQ_cons, g0, u3, nameT, *]
    have K5 : fitQ 5 0 (t0 :: t1 :: t2 :: t3 :: t4 :: l) = 0 := by simp (decide := true) [fitQ_cons, g0, u5, nameT, *]
    have K6 : fitQ 6 0 (t0 :: t1 :: t2 :: t3 :: t4 :: l) = 0 := by simp (decide := true) [fitQ_cons, g0, u6, nameT, *]
    by_cases c2 : t4.tx = wHave
    · have K2 : fitQ 2 0 (t0 :: t1 :: t2 :: t3 :: t4 :: l) = 5 := by
        cases l <;> simp (decide := true) [fitQ_nil, fitQ_cons, g0, g1, g2, g3, g4, u2, nameT, wq2, *]
      rw [if_neg (by decide), want_yes _ _ _ _ _ (by simp [wordIn2, h4, c2]), c2, kw2, if_neg (by decide), tail_who 2 _ (by simp), refQ, if_neg (by omega), if_pos K2]
      rfl
    have K2 : fitQ 2 0 (t0 :: t1 :: t2 :: t3 :: t4 :: l) = 4 := by simp (decide := true) [fitQ_cons, g0, g1, g2, g3, g4, u2, nameT, wq2, *]
    by_cases c4 : t4.tx = wBe
    · have K4 : fitQ 4 0 (t0 :: t1 :: t2 :: t3 :: t4 :: l) = fitQ 4 5 l + 5 := by simp (decide := true) [fitQ_cons, g0, g1, g2, g3, g4, u4, nameT, *]
      have B : bestQ (t0 :: t1 :: t2 :: t3 :: t4 :: l) = fitQ 4 5 l + 5 := by unfold bestQ; omega
      rw [if_neg (by decide), want_yes _ _ _ _ _ (by simp [wordIn2, h4, c4]), c4, kw4, if_pos rfl]
      rw [refQ, if_neg (by omega), if_neg (by omega), if_neg (by omega), if_neg (show ¬ fitQ 5 0 _ = 8 by omega), if_neg (show ¬ fitQ 6 0 _ = 8 by omega), endQ, B, K4]
      clear K1 K2 K3 K4 K5 K6 B R
      rcases l with _ | ⟨t5, l⟩
      · rw [want_nil, tail_why _ _ _ _ _ _ (by decide), if_neg (by rw [fitQ_nil]; decide), if_pos (by simp [fitQ_nil])]
      by_cases h5 : t5.kind = 2
      rotate_left
      · have F : fitQ 4 5 (t5 :: l) = 0 := by simp [fitQ_cons, g5, nameT, h5]
        rw [want_no _ _ _ _ _ (by simp [wordIn1, h5]), tail_why _ _ _ _ _ _ (by decide), F, if_neg (by decide), if_neg (by simp)]
        rfl
      by_cases h6 : t5.tx = wEmpty
      · have F : fitQ 4 5 (t5 :: l) = 1 := by cases l <;> simp [fitQ_nil, fitQ_cons, g5, f4, nameT, h5, h6]
        rw [want_yes _ _ _ _ _ (by simp [wordIn1, h5, h6]), tail_none, F, if_pos rfl]
        rfl
      · have F : fitQ 4 5 (t5 :: l) = 0 := by simp [fitQ_cons, g5, nameT, h6]
        rw [want_no _ _ _ _ _ (by simp [wordIn1, Ne.symm h6]), tail_why _ _ _ _ _ _ (by decide), F, if_neg (by decide), if_neg (by simp)]
        rfl
    have K4 : fitQ 4 0 (t0 :: t1 :: t2 :: t3 :: t4 :: l) = 4 := by simp (decide := true) [fitQ_cons, g0, g1, g2, g3, g4, u4, nameT, *]
    have B : bestQ (t0 :: t1 :: t2 :: t3 :: t4 :: l) = 4 := by unfold bestQ; omega
    rw [if_neg (by decide), want_no _ _ _ _ _ (by simp [wordIn2, Ne.symm c2, Ne.symm c4]), kindW_emp, if_neg (by decide), tail_why _ _ _ _ _ _ (by decide)]
    rw [refQ, if_neg (by omega), if_neg (by omega), if_neg (by omega), if_neg (by omega), if_neg (by omega), if_neg (by omega), endQ, B]
    rw [if_neg (by simp)]
    rfl
  · rw [want_no _ _ _ _ _ (by simp [wordIn2, h0, Ne.symm ha, Ne.symm hc]), mid_why _ _ _ _ _ (by decide)]
    simp (decide := true) [refQ, fitQ_cons, endQ, bestQ, g0, nameT, h0, ha, hc]
end Go.Proofs.YtnhkgfgbhedphaaGreatDoor
namespace Go.Proofs.YtnhkgfgbhedphaaGreatDoor

def okTok (t : Tok) : Prop := (t.kind = 1 → isP 65 90 t.text = true) ∧ (t.kind = 2 → isP 97 122 t.text = true)
theorem word_isP (lo hi : Int) (c : UInt8) (r : List UInt8) (hb : btw c.toNat lo hi = true) (ha : alnum c = true) (h8 : ¬ 8 < (wordOf (c :: r)).length) : isP lo hi (wordOf (c :: r)) = true := by
  have e : wordOf (c :: r) = c :: wordOf r := by simp [wordOf, List.takeWhile, ha]
  rw [e] at h8 ⊢
  have hall : (wordOf r).all alnum = true := by
    rw [List.all_eq_true]
    intro x hx
    exact List.all_eq_true.1 (List.all_takeWhile (p := alnum) (l := r)) x hx
  simp only [List.length_cons] at h8
  simp only [isP, hb, List.all_cons, ha, hall, List.length_cons, Bool.and_true, Bool.and_self, decide_eq_true_iff]
  omega
theorem ok_other (k : Int) (t : List UInt8) (p : Int) (h1 : ¬ k = 1) (h2 : ¬ k = 2) : okTok ⟨k, t, p⟩ := ⟨fun h => absurd h h1, fun h => absurd h h2⟩
theorem oneTok_cons (c : UInt8) (r : List UInt8) (p : Nat) : oneTok (c :: r) p =
    if c.toNat = 46 then ⟨3, [c], p + 1⟩ else if c.toNat = 38 then ⟨5, [c], p + 1⟩
    else if [60, 45].isPrefixOf (c :: r) then ⟨4, [60, 45], p + 1⟩
    else if btw c.toNat 65 90 then ⟨1, wordOf (c :: r), p + 1⟩ else if btw c.toNat 97 122 then ⟨2, wordOf (c :: r), p + 1⟩ else ⟨0, [c], p + 1⟩ := rfl
theorem oneTok_ok (l : List UInt8) (p : Nat) (h8 : ¬ 8 < (oneTok l p).text.length) : okTok (oneTok l p) := by
  match l, h8 with
  | [], _ => exact ok_other 0 _ _ (by decide) (by decide)
  | c :: r, h8 =>
    rw [oneTok_cons] at h8 ⊢
    by_cases h1 : c.toNat = 46
    · rw [if_pos h1]; exact ok_other 3 _ _ (by decide) (by decide)
    rw [if_neg h1] at h8 ⊢
    by_cases h2 : c.toNat = 38
    · rw [if_pos h2]; exact ok_other 5 _ _ (by decide) (by decide)
    rw [if_neg h2] at h8 ⊢
    by_cases h3 : [60, 45].isPrefixOf (c :: r) = true
    · rw [if_pos h3]; exact ok_other 4 _ _ (by decide) (by decide)
    rw [if_neg h3] at h8 ⊢
    by_cases h4 : btw c.toNat 65 90 = true
    · rw [if_pos h4] at h8 ⊢
      exact ⟨fun _ => word_isP 65 90 c r h4 (by simp [alnum, h4]) h8, fun h => absurd h (show ¬ (1 : Int) = 2 by decide)⟩
    rw [if_neg h4] at h8 ⊢
    by_cases h5 : btw c.toNat 97 122 = true
    · rw [if_pos h5] at h8 ⊢
      exact ⟨fun h => absurd h (show ¬ (2 : Int) = 1 by decide), fun _ => word_isP 97 122 c r h5 (by simp [alnum, h5]) h8⟩
    · rw [if_neg h5]; exact ok_other 0 _ _ (by decide) (by decide)
theorem toks_ok : ∀ (f : Nat) (l : List UInt8) (p : Nat) (acc : List Tok), (∀ t ∈ acc, okTok t) → ∀ t ∈ (toks f l p acc).1, okTok t
  | 0, l, p, acc, h => by
    have : toks 0 l p acc = (acc, 0, 0) := by unfold toks; rfl
    rw [this]; exact h
  | f + 1, [], p, acc, h => by rw [toks_nil]; exact h
  | f + 1, c :: r, p, acc, h => by
    by_cases hc : c.toNat = 32
    · rw [toks_space _ _ _ _ _ hc]; exact toks_ok f r (p + 1) acc h
    by_cases hk : (oneTok (c :: r) p).kind = 0
    · rw [toks_bad _ _ _ _ _ hc hk]; intro t ht; cases ht
    by_cases hl : 8 < (oneTok (c :: r) p).text.length
    · rw [toks_long _ _ _ _ _ hc hk hl]; intro t ht; cases ht
    · rw [toks_go _ _ _ _ _ hc hk hl]
      refine toks_ok f _ _ _ fun t ht => ?_
      rcases List.mem_append.1 ht with h' | h'
      · exact h t h'
      · rw [List.mem_singleton.1 h']; exact oneTok_ok _ _ hl
theorem tokens_ok (l : List UInt8) : ∀ t ∈ (tokens l).1, okTok t := by
  unfold tokens
  split
  · intro t ht; cases ht
  · exact toks_ok _ _ _ _ (fun t ht => by cases ht)

theorem right_normal (h : Rl) (a b : Rl) (hh : isRole h = true) (ha : isRole a = true) (hb : isRole b = true) : rightS (normalS ⟨4, h, emp, a, b, emp⟩) = true := by
  unfold normalS
  by_cases hl : lessR b a = true
  · rw [if_pos ⟨rfl, hl⟩]
    show rightS ⟨4, h, emp, b, a, emp⟩ = true
    rw [rightS4, hh, ha, hb, less_no hl, eqSt_self]; rfl
  · rw [if_neg (fun x => hl x.2), rightS4, hh, ha, hb, eqSt_self]
    simp only [Bool.not_eq_true] at hl
    rw [hl]; rfl
theorem fits_pos {t : Tok} {l : List Tok} {k : Int} {s : List Int} {n : Nat} (h : fitsS (t :: l) (k :: s) = n + 1) : t.kind = k ∧ fitsS l s = n := by
  rw [fits_cons] at h
  by_cases hk : t.kind = k
  · rw [if_pos hk] at h; exact ⟨hk, by omega⟩
  · rw [if_neg hk] at h; omega
theorem isRole_of {o n : Tok} {a b : ByteArray} (ho : okTok o) (hn : okTok n) (h1 : o.kind = 1) (h2 : n.kind = 2) (ea : bl a = o.text) (eb : bl b = n.text) : isRole ⟨a, b⟩ = true := by
  simp only [isRole, ea, eb, ho.1 h1, hn.2 h2]; rfl
theorem bl_mk (l : List UInt8) : bl ⟨l.toArray⟩ = l := by simp [bl]
theorem len5 {α : Type} {l : List α} (h : l.length = 5) : ∃ t0 t1 t2 t3 t4, l = [t0, t1, t2, t3, t4] := by
  match l, h with
  | [t0, t1, t2, t3, t4], _ => exact ⟨t0, t1, t2, t3, t4, rfl⟩
theorem len7 {α : Type} {l : List α} (h : l.length = 7) : ∃ t0 t1 t2 t3 t4 t5 t6, l = [t0, t1, t2, t3, t4, t5, t6] := by
  match l, h with
  | [t0, t1, t2, t3, t4, t5, t6], _ => exact ⟨t0, t1, t2, t3, t4, t5, t6, rfl⟩
theorem len9 {α : Type} {l : List α} (h : l.length = 9) : ∃ t0 t1 t2 t3 t4 t5 t6 t7 t8, l = [t0, t1, t2, t3, t4, t5, t6, t7, t8] := by
  match l, h with
  | [t0, t1, t2, t3, t4, t5, t6, t7, t8], _ => exact ⟨t0, t1, t2, t3, t4, t5, t6, t7, t8, rfl⟩
theorem len11 {α : Type} {l : List α} (h : l.length = 11) : ∃ t0 t1 t2 t3 t4 t5 t6 t7 t8 t9 t10, l = [t0, t1, t2, t3, t4, t5, t6, t7, t8, t9, t10] := by
  match l, h with
  | [t0, t1, t2, t3, t4, t5, t6, t7, t8, t9, t10], _ => exact ⟨t0, t1, t2, t3, t4, t5, t6, t7, t8, t9, t10, rfl⟩
theorem refS_right (l : List Tok) (e : Int) (ho : ∀ t ∈ l, okTok t) (h : (refS l e).2.2 = 0) : rightS (refS l e).1 = true := by
  unfold refS at h ⊢
  by_cases h1 : fitsS l sh1 = l.length ∧ fitsS l sh1 = 5
  · rw [if_pos h1]
    obtain ⟨a1, a2⟩ := h1
    obtain ⟨t0, t1, t2, t3, t4, rfl⟩ := len5 (a1.symm.trans a2)
    obtain ⟨k0, a2⟩ := fits_pos (n := 4) a2
    obtain ⟨k1, a2⟩ := fits_pos (n := 3) a2
    obtain ⟨k2, a2⟩ := fits_pos (n := 2) a2
    obtain ⟨k3, a2⟩ := fits_pos (n := 1) a2
    obtain ⟨k4, a2⟩ := fits_pos (n := 0) a2
    simp only [tx, List.getD_eq_getElem?_getD, List.getElem?_cons_zero, List.getElem?_cons_succ, Option.getD_some]
    rw [rightS1, isRole_of (ho t0 (by simp)) (ho t2 (by simp)) k0 k2 (bl_mk _) (bl_mk _), bl_mk, (ho t4 (by simp)).1 k4, eqSt_self]; rfl
  rw [if_neg h1] at h ⊢
  by_cases h2 : fitsS l sh2 = l.length ∧ fitsS l sh2 = 7
  · rw [if_pos h2]
    obtain ⟨a1, a2⟩ := h2
    obtain ⟨t0, t1, t2, t3, t4, t5, t6, rfl⟩ := len7 (a1.symm.trans a2)
    obtain ⟨k0, a2⟩ := fits_pos (n := 6) a2
    obtain ⟨k1, a2⟩ := fits_pos (n := 5) a2
    obtain ⟨k2, a2⟩ := fits_pos (n := 4) a2
    obtain ⟨k3, a2⟩ := fits_pos (n := 3) a2
    obtain ⟨k4, a2⟩ := fits_pos (n := 2) a2
    obtain ⟨k5, a2⟩ := fits_pos (n := 1) a2
    obtain ⟨k6, a2⟩ := fits_pos (n := 0) a2
    simp only [tx, List.getD_eq_getElem?_getD, List.getElem?_cons_zero, List.getElem?_cons_succ, Option.getD_some]
    rw [rightS2, isRole_of (ho t0 (by simp)) (ho t2 (by simp)) k0 k2 (bl_mk _) (bl_mk _), isRole_of (ho t4 (by simp)) (ho t6 (by simp)) k4 k6 (bl_mk _) (bl_mk _), eqSt_self]; rfl
  rw [if_neg h2] at h ⊢
  by_cases h3 : fitsS l sh3 = l.length ∧ fitsS l sh3 = 9
  · rw [if_pos h3]
    obtain ⟨a1, a2⟩ := h3
    obtain ⟨t0, t1, t2, t3, t4, t5, t6, t7, t8, rfl⟩ := len9 (a1.symm.trans a2)
    obtain ⟨k0, a2⟩ := fits_pos (n := 8) a2
    obtain ⟨k1, a2⟩ := fits_pos (n := 7) a2
    obtain ⟨k2, a2⟩ := fits_pos (n := 6) a2
    obtain ⟨k3, a2⟩ := fits_pos (n := 5) a2
    obtain ⟨k4, a2⟩ := fits_pos (n := 4) a2
    obtain ⟨k5, a2⟩ := fits_pos (n := 3) a2
    obtain ⟨k6, a2⟩ := fits_pos (n := 2) a2
    obtain ⟨k7, a2⟩ := fits_pos (n := 1) a2
    obtain ⟨k8, a2⟩ := fits_pos (n := 0) a2
    simp only [tx, List.getD_eq_getElem?_getD, List.getElem?_cons_zero, List.getElem?_cons_succ, Option.getD_some]
    rw [rightS3, isRole_of (ho t0 (by simp)) (ho t2 (by simp)) k0 k2 (bl_mk _) (bl_mk _), isRole_of (ho t4 (by simp)) (ho t6 (by simp)) k4 k6 (bl_mk _) (bl_mk _), bl_mk, (ho t8 (by simp)).2 k8, eqSt_self]; rfl
  rw [if_neg h3] at h ⊢
  by_cases h4 : fitsS l sh4 = l.length ∧ fitsS l sh4 = 11
  · rw [if_pos h4]
    obtain ⟨a1, a2⟩ := h4
    obtain ⟨t0, t1, t2, t3, t4, t5, t6, t7, t8, t9, t10, rfl⟩ := len11 (a1.symm.trans a2)
    obtain ⟨k0, a2⟩ := fits_pos (n := 10) a2
    obtain ⟨k1, a2⟩ := fits_pos (n := 9) a2
    obtain ⟨k2, a2⟩ := fits_pos (n := 8) a2
    obtain ⟨k3, a2⟩ := fits_pos (n := 7) a2
    obtain ⟨k4, a2⟩ := fits_pos (n := 6) a2
    obtain ⟨k5, a2⟩ := fits_pos (n := 5) a2
    obtain ⟨k6, a2⟩ := fits_pos (n := 4) a2
    obtain ⟨k7, a2⟩ := fits_pos (n := 3) a2
    obtain ⟨k8, a2⟩ := fits_pos (n := 2) a2
    obtain ⟨k9, a2⟩ := fits_pos (n := 1) a2
    obtain ⟨k10, a2⟩ := fits_pos (n := 0) a2
    simp only [tx, List.getD_eq_getElem?_getD, List.getElem?_cons_zero, List.getElem?_cons_succ, Option.getD_some]
    exact right_normal _ _ _ (isRole_of (ho t0 (by simp)) (ho t2 (by simp)) k0 k2 (bl_mk _) (bl_mk _)) (isRole_of (ho t4 (by simp)) (ho t6 (by simp)) k4 k6 (bl_mk _) (bl_mk _)) (isRole_of (ho t8 (by simp)) (ho t10 (by simp)) k8 k10 (bl_mk _) (bl_mk _))
  rw [if_neg h4] at h
  unfold refEnd at h
  split at h <;> cases h
theorem parse_right (s : ByteArray) (h : (parseS s).2.2 = 0) : rightS (parseS s).1 = true := by
  unfold parseS at h ⊢
  by_cases h0 : (tokens (bl s)).2.2 = 0
  · have e : parseT (tokens (bl s)) (endOf s) = refS (tokens (bl s)).1 (endOf s) := (parseT_good h0).trans (law_parse _ _)
    rw [e] at h ⊢
    exact refS_right _ _ (tokens_ok _) h
  · rw [parseT_bad h0] at h; exact absurd h h0

def stops (l : List UInt8) : Prop := ∀ c, l.head? = some c → alnum c = false
theorem wordOf_app (w r : List UInt8) (hw : w.all alnum = true) (hr : stops r) : wordOf (w ++ r) = w := by
  unfold wordOf
  rw [List.takeWhile_append_of_pos (by simpa using hw)]
  cases r with
  | nil => simp
  | cons c r =>
    have : alnum c = false := hr c rfl
    simp [List.takeWhile, this]
theorem btw_of {c : UInt8} {lo hi : Int} (h : btw c.toNat lo hi = true) : lo ≤ c.toNat ∧ (c.toNat : Int) ≤ hi := by simpa [btw] using h
theorem toks_big (w r : List UInt8) (f p : Nat) (acc : List Tok) (hw : isP 65 90 w = true) (hr : stops r) : toks (f + 1) (w ++ r) p acc = toks f r (p + w.length) (acc ++ [⟨1, w, p + 1⟩]) := by
  match w, hw with
  | c :: w, hw =>
    simp only [isP, Bool.and_eq_true, decide_eq_true_iff] at hw
    obtain ⟨⟨hl, hb⟩, ha⟩ := hw
    obtain ⟨b1, b2⟩ := btw_of hb
    have e : wordOf (c :: (w ++ r)) = c :: w := by rw [← List.cons_append]; exact wordOf_app _ _ ha hr
    have hp : ¬ [60, 45].isPrefixOf (c :: (w ++ r)) = true := by
      intro x
      have : (60 : UInt8) = c := by simp only [List.isPrefixOf, Bool.and_eq_true, beq_iff_eq] at x; exact x.1
      subst this; exact absurd b1 (by decide)
    have ht : oneTok (c :: (w ++ r)) p = ⟨1, c :: w, p + 1⟩ := by
      rw [oneTok_cons, if_neg (by omega), if_neg (by omega), if_neg hp, if_pos hb, e]
    rw [List.cons_append, toks_go _ _ _ _ _ (by omega) (by rw [ht]; exact (show ¬ (1 : Int) = 0 by decide)) (by rw [ht]; simp only [List.length_cons] at hl ⊢; omega), ht]
    rw [← List.cons_append]
    simp
theorem toks_small (w r : List UInt8) (f p : Nat) (acc : List Tok) (hw : isP 97 122 w = true) (hr : stops r) : toks (f + 1) (w ++ r) p acc = toks f r (p + w.length) (acc ++ [⟨2, w, p + 1⟩]) := by
  match w, hw with
  | c :: w, hw =>
    simp only [isP, Bool.and_eq_true, decide_eq_true_iff] at hw
    obtain ⟨⟨hl, hb⟩, ha⟩ := hw
    obtain ⟨b1, b2⟩ := btw_of hb
    have e : wordOf (c :: (w ++ r)) = c :: w := by rw [← List.cons_append]; exact wordOf_app _ _ ha hr
    have hp : ¬ [60, 45].isPrefixOf (c :: (w ++ r)) = true := by
      intro x
      have : (60 : UInt8) = c := by simp only [List.isPrefixOf, Bool.and_eq_true, beq_iff_eq] at x; exact x.1
      subst this; exact absurd b1 (by decide)
    have hb2 : ¬ btw c.toNat 65 90 = true := fun h => by have := (btw_of h).2; omega
    have ht : oneTok (c :: (w ++ r)) p = ⟨2, c :: w, p + 1⟩ := by
      rw [oneTok_cons, if_neg (by omega), if_neg (by omega), if_neg hp, if_neg hb2, if_pos hb, e]
    rw [List.cons_append, toks_go _ _ _ _ _ (by omega) (by rw [ht]; exact (show ¬ (2 : Int) = 0 by decide)) (by rw [ht]; simp only [List.length_cons] at hl ⊢; omega), ht]
    rw [← List.cons_append]
    simp
theorem toks_dot (r : List UInt8) (f p : Nat) (acc : List Tok) : toks (f + 1) (46 :: r) p acc = toks f r (p + 1) (acc ++ [⟨3, [46], p + 1⟩]) := by
  have ht : oneTok (46 :: r) p = ⟨3, [46], p + 1⟩ := rfl
  rw [toks_go _ _ _ _ _ (by decide) (by rw [ht]; exact (show ¬ (3 : Int) = 0 by decide)) (by rw [ht]; exact (show ¬ 8 < 1 by decide)), ht]; rfl
theorem toks_amp (r : List UInt8) (f p : Nat) (acc : List Tok) : toks (f + 1) (38 :: r) p acc = toks f r (p + 1) (acc ++ [⟨5, [38], p + 1⟩]) := by
  have ht : oneTok (38 :: r) p = ⟨5, [38], p + 1⟩ := rfl
  rw [toks_go _ _ _ _ _ (by decide) (by rw [ht]; exact (show ¬ (5 : Int) = 0 by decide)) (by rw [ht]; exact (show ¬ 8 < 1 by decide)), ht]; rfl
theorem toks_arrow (r : List UInt8) (f p : Nat) (acc : List Tok) : toks (f + 1) (60 :: 45 :: r) p acc = toks f r (p + 2) (acc ++ [⟨4, [60, 45], p + 1⟩]) := by
  have ht : oneTok (60 :: 45 :: r) p = ⟨4, [60, 45], p + 1⟩ := by simp [oneTok, List.isPrefixOf]
  rw [toks_go _ _ _ _ _ (by decide) (by rw [ht]; exact (show ¬ (4 : Int) = 0 by decide)) (by rw [ht]; exact (show ¬ 8 < 2 by decide)), ht]; rfl
theorem toks_blank (r : List UInt8) (f p : Nat) (acc : List Tok) : toks (f + 1) (32 :: r) p acc = toks f r (p + 1) acc := toks_space _ _ _ _ _ (by decide)
theorem stops_nil : stops [] := fun c h => by cases h
theorem stops_cons {c : UInt8} (r : List UInt8) (h : alnum c = false) : stops (c :: r) := fun d hd => by cases hd; exact h
theorem isP_len {lo hi : Int} {w : List UInt8} (h : isP lo hi w = true) : 1 ≤ w.length ∧ w.length ≤ 8 := by
  match w, h with
  | c :: w, h =>
    simp only [isP, Bool.and_eq_true, decide_eq_true_iff] at h
    exact ⟨by simp, h.1.1⟩
theorem isP_plain {lo hi : Int} {w : List UInt8} (h : isP lo hi w = true) : ∀ c ∈ w, ¬ c = 35 := by
  match w, h with
  | c :: w, h =>
    simp only [isP, Bool.and_eq_true, decide_eq_true_iff] at h
    intro x hx e
    have := List.all_eq_true.1 h.2 x hx
    rw [e] at this
    exact absurd this (by decide)
theorem bare_same {l : List UInt8} (h : ∀ c ∈ l, ¬ c = 35) : bare l = l := by
  unfold bare
  induction l with
  | nil => rfl
  | cons a r ih =>
    have ha : (!(a == 35)) = true := by simp [h a (by simp)]
    simp only [List.takeWhile, ha]
    rw [ih (fun c hc => h c (by simp [hc]))]
theorem parse_tokens {s : ByteArray} {l : List Tok} (h : tokens (bl s) = (l, 0, 0)) : parseS s = refS l (endOf s) := by
  unfold parseS
  rw [h]
  exact (parseT_good rfl).trans (law_parse _ _)
theorem isRole_iff (o n : ByteArray) : isRole ⟨o, n⟩ = true ↔ isP 65 90 (bl o) = true ∧ isP 97 122 (bl n) = true := by simp [isRole]
theorem bl_inj2 {l : List UInt8} {a : ByteArray} (h : l = bl a) : (⟨l.toArray⟩ : ByteArray) = a := bl_inj.1 (by rw [bl_mk, h])
theorem ba_bl (a : ByteArray) : (⟨(bl a).toArray⟩ : ByteArray) = a := bl_inj2 rfl
theorem norm_keep (h : Rl) (a b : Rl) (hl : lessR b a = false) : normalS ⟨4, h, emp, a, b, emp⟩ = ⟨4, h, emp, a, b, emp⟩ := by
  unfold normalS; rw [if_neg (fun x => by rw [hl] at x; cases x.2)]
theorem a46 : alnum 46 = false := by decide
theorem a32 : alnum 32 = false := by decide
set_option maxHeartbeats 2000000 in
theorem parse_print (s : St) (h : rightS s = true) : parseS (printS s) = (s, 0, 0) := by
  obtain ⟨k, ⟨h1, h2⟩, who, ⟨a1, a2⟩, ⟨b1, b2⟩, via⟩ := s
  have hr := h
  by_cases k1 : k = 1
  · subst k1
    rw [rightS1] at h
    simp only [Bool.and_eq_true, isRole_iff, eqSt, decide_eq_true_iff, St.mk.injEq, true_and] at h
    obtain ⟨⟨⟨ho, hn⟩, hw⟩, ea, eb, rfl⟩ := h
    obtain ⟨l1, l2⟩ := isP_len ho; obtain ⟨l3, l4⟩ := isP_len hn; obtain ⟨l5, l6⟩ := isP_len hw
    have hb : bl (printS ⟨1, ⟨h1, h2⟩, who, ⟨a1, a2⟩, ⟨b1, b2⟩, emp⟩) = bl h1 ++ 46 :: (bl h2 ++ 32 :: 60 :: 45 :: 32 :: (bl who ++ [])) := by
      unfold printS; rw [if_pos hr]; simp [roleT, bl]
    have ht : ∃ c1 c2 c3 c4 : Int, tokens (bl (printS ⟨1, ⟨h1, h2⟩, who, ⟨a1, a2⟩, ⟨b1, b2⟩, emp⟩)) = ([⟨1, bl h1, 0 + 1⟩, ⟨3, [46], c1⟩, ⟨2, bl h2, c2⟩, ⟨4, [60, 45], c3⟩, ⟨1, bl who, c4⟩], 0, 0) := by
      rw [hb]
      unfold tokens
      have hp : bare (bl h1 ++ 46 :: (bl h2 ++ 32 :: 60 :: 45 :: 32 :: (bl who ++ []))) = bl h1 ++ 46 :: (bl h2 ++ 32 :: 60 :: 45 :: 32 :: (bl who ++ [])) := by
        refine bare_same fun c hc => ?_
        simp only [List.mem_append, List.mem_cons, List.not_mem_nil, or_false] at hc
        rcases hc with hc | rfl | hc | rfl | rfl | rfl | rfl | hc <;> first | exact isP_plain ho c hc | exact isP_plain hn c hc | exact isP_plain hw c hc | decide
      rw [hp, if_neg (by simp only [List.length_append, List.length_cons, List.length_nil]; omega)]
      obtain ⟨x, hx⟩ : ∃ x, (bl h1 ++ 46 :: (bl h2 ++ 32 :: 60 :: 45 :: 32 :: (bl who ++ []))).length = x + 1 + 1 + 1 + 1 + 1 + 1 + 1 := ⟨(bl h1 ++ 46 :: (bl h2 ++ 32 :: 60 :: 45 :: 32 :: (bl who ++ []))).length - 7, by simp only [List.length_append, List.length_cons, List.length_nil]; omega⟩
      rw [hx, toks_big _ _ _ _ _ ho (stops_cons _ a46), toks_dot, toks_small _ _ _ _ _ hn (stops_cons _ a32), toks_blank, toks_arrow, toks_blank, toks_big _ _ _ _ _ hw stops_nil, toks_nil]
      exact ⟨_, _, _, _, rfl⟩
    obtain ⟨c1, c2, c3, c4, ht⟩ := ht
    rw [parse_tokens ht, ea, eb]
    simp [refS, fits_cons, fits_end, sh1, tx]
  by_cases k2 : k = 2
  · subst k2
    rw [rightS2] at h
    simp only [Bool.and_eq_true, isRole_iff, eqSt, decide_eq_true_iff, St.mk.injEq, true_and] at h
    obtain ⟨⟨⟨ho, hn⟩, ha, hc⟩, rfl, eb, rfl⟩ := h
    obtain ⟨l1, l2⟩ := isP_len ho; obtain ⟨l3, l4⟩ := isP_len hn; obtain ⟨l5, l6⟩ := isP_len ha; obtain ⟨l7, l8⟩ := isP_len hc
    have hb : bl (printS ⟨2, ⟨h1, h2⟩, emp, ⟨a1, a2⟩, ⟨b1, b2⟩, emp⟩) = bl h1 ++ 46 :: (bl h2 ++ 32 :: 60 :: 45 :: 32 :: (bl a1 ++ 46 :: (bl a2 ++ []))) := by
      unfold printS; rw [if_pos hr]; simp [roleT, bl]
    have ht : ∃ c1 c2 c3 c4 c5 c6 : Int, tokens (bl (printS ⟨2, ⟨h1, h2⟩, emp, ⟨a1, a2⟩, ⟨b1, b2⟩, emp⟩)) = ([⟨1, bl h1, 0 + 1⟩, ⟨3, [46], c1⟩, ⟨2, bl h2, c2⟩, ⟨4, [60, 45], c3⟩, ⟨1, bl a1, c4⟩, ⟨3, [46], c5⟩, ⟨2, bl a2, c6⟩], 0, 0) := by
      rw [hb]
      unfold tokens
      have hp : bare (bl h1 ++ 46 :: (bl h2 ++ 32 :: 60 :: 45 :: 32 :: (bl a1 ++ 46 :: (bl a2 ++ [])))) = bl h1 ++ 46 :: (bl h2 ++ 32 :: 60 :: 45 :: 32 :: (bl a1 ++ 46 :: (bl a2 ++ []))) := by
        refine bare_same fun c hc' => ?_
        simp only [List.mem_append, List.mem_cons, List.not_mem_nil, or_false] at hc'
        rcases hc' with hc' | rfl | hc' | rfl | rfl | rfl | rfl | hc' | rfl | hc' <;> first | exact isP_plain ho c hc' | exact isP_plain hn c hc' | exact isP_plain ha c hc' | exact isP_plain hc c hc' | decide
      rw [hp, if_neg (by simp only [List.length_append, List.length_cons, List.length_nil]; omega)]
      obtain ⟨x, hx⟩ : ∃ x, (bl h1 ++ 46 :: (bl h2 ++ 32 :: 60 :: 45 :: 32 :: (bl a1 ++ 46 :: (bl a2 ++ [])))).length = x + 1 + 1 + 1 + 1 + 1 + 1 + 1 + 1 + 1 := ⟨(bl h1 ++ 46 :: (bl h2 ++ 32 :: 60 :: 45 :: 32 :: (bl a1 ++ 46 :: (bl a2 ++ [])))).length - 9, by simp only [List.length_append, List.length_cons, List.length_nil]; omega⟩
      rw [hx, toks_big _ _ _ _ _ ho (stops_cons _ a46), toks_dot, toks_small _ _ _ _ _ hn (stops_cons _ a32), toks_blank, toks_arrow, toks_blank, toks_big _ _ _ _ _ ha (stops_cons _ a46), toks_dot, toks_small _ _ _ _ _ hc stops_nil, toks_nil]
      exact ⟨_, _, _, _, _, _, rfl⟩
    obtain ⟨c1, c2, c3, c4, c5, c6, ht⟩ := ht
    rw [parse_tokens ht, eb]
    simp [refS, fits_cons, fits_end, sh1, sh2, tx]
  by_cases k3 : k = 3
  · subst k3
    rw [rightS3] at h
    simp only [Bool.and_eq_true, isRole_iff, eqSt, decide_eq_true_iff, St.mk.injEq, true_and, and_true] at h
    obtain ⟨⟨⟨⟨ho, hn⟩, ha, hc⟩, hv⟩, rfl, eb⟩ := h
    obtain ⟨l1, l2⟩ := isP_len ho; obtain ⟨l3, l4⟩ := isP_len hn; obtain ⟨l5, l6⟩ := isP_len ha; obtain ⟨l7, l8⟩ := isP_len hc; obtain ⟨l9, l10⟩ := isP_len hv
    have hb : bl (printS ⟨3, ⟨h1, h2⟩, emp, ⟨a1, a2⟩, ⟨b1, b2⟩, via⟩) = bl h1 ++ 46 :: (bl h2 ++ 32 :: 60 :: 45 :: 32 :: (bl a1 ++ 46 :: (bl a2 ++ 46 :: (bl via ++ [])))) := by
      unfold printS; rw [if_pos hr]; simp [roleT, bl]
    have ht : ∃ c1 c2 c3 c4 c5 c6 c7 c8 : Int, tokens (bl (printS ⟨3, ⟨h1, h2⟩, emp, ⟨a1, a2⟩, ⟨b1, b2⟩, via⟩)) = ([⟨1, bl h1, 0 + 1⟩, ⟨3, [46], c1⟩, ⟨2, bl h2, c2⟩, ⟨4, [60, 45], c3⟩, ⟨1, bl a1, c4⟩, ⟨3, [46], c5⟩, ⟨2, bl a2, c6⟩, ⟨3, [46], c7⟩, ⟨2, bl via, c8⟩], 0, 0) := by
      rw [hb]
      unfold tokens
      have hp : bare (bl h1 ++ 46 :: (bl h2 ++ 32 :: 60 :: 45 :: 32 :: (bl a1 ++ 46 :: (bl a2 ++ 46 :: (bl via ++ []))))) = bl h1 ++ 46 :: (bl h2 ++ 32 :: 60 :: 45 :: 32 :: (bl a1 ++ 46 :: (bl a2 ++ 46 :: (bl via ++ [])))) := by
        refine bare_same fun c hc' => ?_
        simp only [List.mem_append, List.mem_cons, List.not_mem_nil, or_false] at hc'
        rcases hc' with hc' | rfl | hc' | rfl | rfl | rfl | rfl | hc' | rfl | hc' | rfl | hc' <;> first | exact isP_plain ho c hc' | exact isP_plain hn c hc' | exact isP_plain ha c hc' | exact isP_plain hc c hc' | exact isP_plain hv c hc' | decide
      rw [hp, if_neg (by simp only [List.length_append, List.length_cons, List.length_nil]; omega)]
      obtain ⟨x, hx⟩ : ∃ x, (bl h1 ++ 46 :: (bl h2 ++ 32 :: 60 :: 45 :: 32 :: (bl a1 ++ 46 :: (bl a2 ++ 46 :: (bl via ++ []))))).length = x + 1 + 1 + 1 + 1 + 1 + 1 + 1 + 1 + 1 + 1 + 1 := ⟨(bl h1 ++ 46 :: (bl h2 ++ 32 :: 60 :: 45 :: 32 :: (bl a1 ++ 46 :: (bl a2 ++ 46 :: (bl via ++ []))))).length - 11, by simp only [List.length_append, List.length_cons, List.length_nil]; omega⟩
      rw [hx, toks_big _ _ _ _ _ ho (stops_cons _ a46), toks_dot, toks_small _ _ _ _ _ hn (stops_cons _ a32), toks_blank, toks_arrow, toks_blank, toks_big _ _ _ _ _ ha (stops_cons _ a46), toks_dot, toks_small _ _ _ _ _ hc (stops_cons _ a46), toks_dot, toks_small _ _ _ _ _ hv stops_nil, toks_nil]
      exact ⟨_, _, _, _, _, _, _, _, rfl⟩
    obtain ⟨c1, c2, c3, c4, c5, c6, c7, c8, ht⟩ := ht
    rw [parse_tokens ht, eb]
    simp [refS, fits_cons, fits_end, sh1, sh2, sh3, tx]
  by_cases k4 : k = 4
  · subst k4
    rw [rightS4] at h
    simp only [Bool.and_eq_true, isRole_iff, eqSt, decide_eq_true_iff, St.mk.injEq, true_and, Bool.not_eq_true'] at h
    obtain ⟨⟨⟨⟨⟨ho, hn⟩, ha, hc⟩, hd, he⟩, hl⟩, rfl, rfl⟩ := h
    obtain ⟨l1, l2⟩ := isP_len ho; obtain ⟨l3, l4⟩ := isP_len hn; obtain ⟨l5, l6⟩ := isP_len ha; obtain ⟨l7, l8⟩ := isP_len hc; obtain ⟨l9, l10⟩ := isP_len hd; obtain ⟨l11, l12⟩ := isP_len he
    have hb : bl (printS ⟨4, ⟨h1, h2⟩, emp, ⟨a1, a2⟩, ⟨b1, b2⟩, emp⟩) = bl h1 ++ 46 :: (bl h2 ++ 32 :: 60 :: 45 :: 32 :: (bl a1 ++ 46 :: (bl a2 ++ 32 :: 38 :: 32 :: (bl b1 ++ 46 :: (bl b2 ++ []))))) := by
      unfold printS; rw [if_pos hr]; simp [roleT, bl]
    have ht : ∃ c1 c2 c3 c4 c5 c6 c7 c8 c9 c10 : Int, tokens (bl (printS ⟨4, ⟨h1, h2⟩, emp, ⟨a1, a2⟩, ⟨b1, b2⟩, emp⟩)) = ([⟨1, bl h1, 0 + 1⟩, ⟨3, [46], c1⟩, ⟨2, bl h2, c2⟩, ⟨4, [60, 45], c3⟩, ⟨1, bl a1, c4⟩, ⟨3, [46], c5⟩, ⟨2, bl a2, c6⟩, ⟨5, [38], c7⟩, ⟨1, bl b1, c8⟩, ⟨3, [46], c9⟩, ⟨2, bl b2, c10⟩], 0, 0) := by
      rw [hb]
      unfold tokens
      have hp : bare (bl h1 ++ 46 :: (bl h2 ++ 32 :: 60 :: 45 :: 32 :: (bl a1 ++ 46 :: (bl a2 ++ 32 :: 38 :: 32 :: (bl b1 ++ 46 :: (bl b2 ++ [])))))) = bl h1 ++ 46 :: (bl h2 ++ 32 :: 60 :: 45 :: 32 :: (bl a1 ++ 46 :: (bl a2 ++ 32 :: 38 :: 32 :: (bl b1 ++ 46 :: (bl b2 ++ []))))) := by
        refine bare_same fun c hc' => ?_
        simp only [List.mem_append, List.mem_cons, List.not_mem_nil, or_false] at hc'
        rcases hc' with hc' | rfl | hc' | rfl | rfl | rfl | rfl | hc' | rfl | hc' | rfl | rfl | rfl | hc' | rfl | hc' <;> first | exact isP_plain ho c hc' | exact isP_plain hn c hc' | exact isP_plain ha c hc' | exact isP_plain hc c hc' | exact isP_plain hd c hc' | exact isP_plain he c hc' | decide
      rw [hp, if_neg (by simp only [List.length_append, List.length_cons, List.length_nil]; omega)]
      obtain ⟨x, hx⟩ : ∃ x, (bl h1 ++ 46 :: (bl h2 ++ 32 :: 60 :: 45 :: 32 :: (bl a1 ++ 46 :: (bl a2 ++ 32 :: 38 :: 32 :: (bl b1 ++ 46 :: (bl b2 ++ [])))))).length = x + 1 + 1 + 1 + 1 + 1 + 1 + 1 + 1 + 1 + 1 + 1 + 1 + 1 + 1 + 1 := ⟨(bl h1 ++ 46 :: (bl h2 ++ 32 :: 60 :: 45 :: 32 :: (bl a1 ++ 46 :: (bl a2 ++ 32 :: 38 :: 32 :: (bl b1 ++ 46 :: (bl b2 ++ [])))))).length - 15, by simp only [List.length_append, List.length_cons, List.length_nil]; omega⟩
      rw [hx, toks_big _ _ _ _ _ ho (stops_cons _ a46), toks_dot, toks_small _ _ _ _ _ hn (stops_cons _ a32), toks_blank, toks_arrow, toks_blank, toks_big _ _ _ _ _ ha (stops_cons _ a46), toks_dot, toks_small _ _ _ _ _ hc (stops_cons _ a32), toks_blank, toks_amp, toks_blank, toks_big _ _ _ _ _ hd (stops_cons _ a46), toks_dot, toks_small _ _ _ _ _ he stops_nil, toks_nil]
      exact ⟨_, _, _, _, _, _, _, _, _, _, rfl⟩
    obtain ⟨c1, c2, c3, c4, c5, c6, c7, c8, c9, c10, ht⟩ := ht
    rw [parse_tokens ht]
    have hk := norm_keep ⟨h1, h2⟩ ⟨a1, a2⟩ ⟨b1, b2⟩ hl
    simp [refS, fits_cons, fits_end, sh1, sh2, sh3, sh4, tx, hk]
  rw [rightS0 _ _ _ _ _ _ k1 k2 k3 k4] at hr
  cases hr
end Go.Proofs.YtnhkgfgbhedphaaGreatDoor
namespace Go.Proofs.YtnhkgfgbhedphaaGreatDoor
open Go.RowKit Go.Shelf

theorem sb_size : (Tryz.prog.info? 92).map (·.size) = some 2 := by kernel_rfl
theorem sb_lies : liesAt Tryz.prog Tryz.prog.depth 92 (2 / Tryz.prog.cellsOf 92) 0 92 1 = true := by kernel_rfl
theorem sb_byte : (Tryz.prog.info? 5).map (fun i => (i.zero, i.size, i.bytes)) = some (some (.int .u8 0), 1, 1) := by kernel_rfl

set_option maxRecDepth 100000 in
set_option maxHeartbeats 1000000 in
theorem sb_copyCheck_used (b : Nat) (w : World) (h0 : w.cell? ⟨b, 0, none⟩ = some (.pointer (some ⟨b, 0, none⟩))) :
    Calls Tryz.prog 119 #[.pointer (some ⟨b, 0, none⟩)] w fun e w' => e = .returned (.tuple #[]) ∧ w' = w := by
  obtain ⟨j, hj, _⟩ := Option.map_eq_some_iff.1 sb_size
  go_enter Tryz.func119, Tryz.ntmps119
  go_wp2
  rw [Lib.run_neq_ptr_same w _ Tryz.underlying90 hj]
  go_wp2
  go_end0
  exact ⟨rfl, rfl⟩

set_option maxRecDepth 100000 in
set_option maxHeartbeats 1000000 in
theorem sb_copyCheck_fresh (b : Nat) (w : World) (h0 : w.cell? ⟨b, 0, none⟩ = some (.pointer none)) (hsh : w.shape? b = some (92, 2)) (hfz : w.frozen? ⟨b, 0, none⟩ = false) :
    Calls Tryz.prog 119 #[.pointer (some ⟨b, 0, none⟩)] w fun e w' => e = .returned (.tuple #[]) ∧ w' = w.setCell ⟨b, 0, none⟩ (.pointer (some ⟨b, 0, none⟩)) := by
  obtain ⟨j, hj, hjs⟩ := Option.map_eq_some_iff.1 sb_size
  go_enter Tryz.func119, Tryz.ntmps119
  go_wp2
  rw [Lib.run_to_unsafe w ⟨b, 0, none⟩ Tryz.underlying90 Tryz.underlying206 hj (by rw [hjs]; decide) hsh (Nat.zero_lt_succ 1)]
  simp only [Result.andThen]
  rw [Oper.upon_value]
  go_wp2
  rw [run_callFunc_extern Tryz.func186 (by kernel_rfl) (by kernel_rfl) (by kernel_rfl) (e := Extern.AbiNoEscape.same) (by kernel_rfl)]
  rw [Lib.run_noEscape]
  simp only [Result.andThen]
  rw [Oper.upon_value]
  go_wp2
  rw [Lib.run_from_unsafe w ⟨b, 0, none⟩ Tryz.underlying206 Tryz.underlying90 hj hsh sb_lies]
  simp only [Result.andThen]
  rw [Oper.upon_value]
  go_wp2
  go_end0
  exact ⟨rfl, rfl⟩

abbrev SbAt (B b : Nat) (l : List UInt8) (w : World) : Prop := Lib.IsBuilderF 92 5 B b (Lib.byteCells l) w

theorem sb_copyCheck (B b : Nat) (bs : List Value) (w : World) (h : Lib.IsBuilderF 92 5 B b bs w) :
    Calls Tryz.prog 119 #[.pointer (some ⟨b, 0, none⟩)] w fun e w' => e = .returned (.tuple #[]) ∧ (Lib.BuilderAtF 92 5 B b (.pointer (some ⟨b, 0, none⟩)) bs w' ∧ Below B w w' ∧ Lib.OthersKept 5 (some b) w w') := by
  rcases h with h | h
  · refine (sb_copyCheck_fresh b w h.cell0 h.shape h.frozen0).mono ?_
    rintro e w' ⟨rfl, rfl⟩
    exact ⟨rfl, h.used _, (Below.refl B w).setCell (p := ⟨b, 0, none⟩) h.1 _, (Lib.OthersKept.refl _ _ w).setCell ⟨b, 0, none⟩ rfl _⟩
  · refine (sb_copyCheck_used b w h.cell0).mono ?_
    rintro e w' ⟨rfl, rfl⟩
    exact ⟨rfl, h, Below.refl B _, Lib.OthersKept.refl _ _ _⟩

theorem strCells_eq (s : ByteArray) : Lib.strCells s = Lib.byteCells (bl s) := rfl

set_option maxHeartbeats 2000000 in
set_option maxRecDepth 100000 in
theorem sb_WriteString (B b : Nat) (l : List UInt8) (s : ByteArray) (w : World) (h : SbAt B b l w) (hlen : l.length + s.size ≤ 140737488355328) (hBw : B ≤ w.heap.size) :
    Calls Tryz.prog 69 #[.pointer (some ⟨b, 0, none⟩), .string s] w fun e w' => e = .returned (.tuple #[.int .i64 s.size, .nilIface]) ∧ (SbAt B b (l ++ bl s) w' ∧ Below B w w' ∧ Lib.OthersKept 5 (some b) w w') := by
  obtain ⟨i0, hi, hz0, hz1, hz2⟩ := info_parts sb_byte
  have hlen' : (Lib.byteCells l).length + s.size ≤ 140737488355328 := by simpa [Lib.byteCells] using hlen
  have H := Lib.hid h
  have HL := Lib.hid hlen'
  clear h hlen hlen'
  go_enter Tryz.func69, Tryz.ntmps69
  go_wp2_with (go_at_call 119; refine (sb_copyCheck B b _ _ H.out).mono ?_)
  rintro e w1 ⟨rfl, h1, hb1, hk1⟩
  obtain ⟨hB, v, hbk, hown, hne⟩ := h1
  have c0 : w1.cell? ⟨b, 0, none⟩ = some (.pointer (some ⟨b, 0, none⟩)) := by rw [Lib.cell_of_heap hbk]; rfl
  have c1 : w1.cell? ⟨b, 1, none⟩ = some v := by rw [Lib.cell_of_heap hbk]; rfl
  go_wp2_with (at_builtin; refine Lib.wpList_append_own_stringF _ rfl _ _ 59 9 rfl B 5 i0 Tryz.underlying59 Tryz.underlying9 hi hz0 hz1 hz2 _ _ _ rfl hown s rfl ?c3 ?c4 ?c5 ?_)
  case c3 => have := HL.out; unfold maxLen; omega
  case c4 => exact HL.out
  case c5 => have := hb1.size; omega
  intro v' w2 hown' hgrow _
  have hlt : b < w1.heap.size := by
    rcases Nat.lt_or_ge b w1.heap.size with h' | h'
    · exact h'
    · simp [Array.getElem?_eq_none h'] at hbk
  have hb2 : w2.heap[b]? = some (.cells #[.pointer (some ⟨b, 0, none⟩), v] 92 (0, 0)) := by
    rw [hgrow.block b hlt (fun e => hne e.symm)]
    exact hbk
  have d0 : w2.cell? ⟨b, 0, none⟩ = some (.pointer (some ⟨b, 0, none⟩)) := by rw [Lib.cell_of_heap hb2]; rfl
  have d1 : w2.cell? ⟨b, 1, none⟩ = some v := by rw [Lib.cell_of_heap hb2]; rfl
  have f1 : w2.frozen? ⟨b, 1, none⟩ = false := Lib.frozen_of_heap hb2 1
  obtain ⟨ao, n', cap, rfl⟩ : ∃ ao n' cap, v' = .slice ao n' cap := by
    rcases hown'.2 with ⟨hv, _⟩ | ⟨g, cap, cur, fz, hv, _⟩
    · exact ⟨_, _, _, hv⟩
    · exact ⟨_, _, _, hv⟩
  go_wp2
  go_ret2
  refine ⟨rfl, ?_, ?_, (hk1.grown hgrow (Lib.ownsRowF_kind hown)).setCell ⟨b, 1, none⟩ rfl _⟩
  · have e1 : Lib.byteCells (l ++ bl s) = Lib.byteCells l ++ Lib.strCells s := by rw [strCells_eq]; simp [Lib.byteCells]
    unfold SbAt
    rw [e1]
    exact .inr (Lib.BuilderAtF.put (T := 92) (e := 5) hB hb2 (bs' := Lib.byteCells l ++ Lib.strCells s) (by simpa [Lib.strCells_length] using hown') (by decide))
  · exact (hb1.grown hgrow (by have := hb1.size; omega) (fun k hk => (hown.lt k hk).1)).setCell (p := ⟨b, 1, none⟩) hB _
theorem sb_new (w : World) (B : Nat) (hB : B ≤ w.heap.size) : SbAt B w.heap.size [] (w.alloc (.cells #[.pointer none, .slice none 0 0] 92)) :=
  .inl ⟨hB, .slice none 0 0, heap_new1 _ _, ⟨by simp [Lib.byteCells], .inl ⟨rfl, rfl⟩⟩, by simp [Value.ownBlock]⟩
end Go.Proofs.YtnhkgfgbhedphaaGreatDoor
namespace Go.Proofs.YtnhkgfgbhedphaaGreatDoor
open Go.RowKit Go.Shelf

set_option maxHeartbeats 2000000 in
set_option maxRecDepth 1000000 in
theorem sb_grow_fresh (B b n : Nat) (w : World) (hB : B ≤ b) (hbk : w.heap[b]? = some (.cells #[.pointer (some ⟨b, 0, none⟩), .slice none 0 0] 92 (0, 0))) (hBw : B ≤ w.heap.size) (hn : n ≤ 281474976710656) :
    Calls Tryz.prog 187 #[.pointer (some ⟨b, 0, none⟩), .int .i64 n] w fun e w' => e = .returned (.tuple #[]) ∧ (Lib.BuilderAt 92 5 B b (.pointer (some ⟨b, 0, none⟩)) [] w' ∧ Below B w w') := by
  obtain ⟨i0, hi, hz0, hz1, hz2⟩ := info_parts sb_byte
  obtain ⟨cs, hrun, hle, hmax⟩ := Lib.run_makeNoZero (P := Tryz.prog) w.drew #[3] 59 5 Tryz.underlying59 n hn
  have hw : IntKind.i64.wrap (IntKind.i64.wrap 0 + (n : Int)) = n := by
    rw [IntKind.wrap_i64, IntKind.wrap_i64]
    omega
  have hcall : (callFunc 224 #[.int .i64 (IntKind.i64.wrap (IntKind.i64.wrap 0 + (n : Int)))]).run Tryz.prog w.drew = .ok (.value (.slice (some ⟨w.drew.heap.size, 0, none⟩) n cs.size)) (w.drew.drew.drew.alloc (.cells cs 5)) := by
    rw [hw, run_callFunc_extern Tryz.func224 (by kernel_rfl) (by kernel_rfl) (by kernel_rfl) (e := Extern.BytealgMakeNoZero.makeNoZero #[3] #[59]) (by kernel_rfl), hrun]
    rfl
  have c1 : w.drew.cell? ⟨b, 1, none⟩ = some (.slice none 0 0) := by
    have : w.drew.heap[b]? = _ := hbk
    rw [Lib.cell_of_heap this]; rfl
  have c2 : (w.alloc (.cells cs 5)).cell? ⟨b, 1, none⟩ = some (.slice none 0 0) := by
    have hlt : b < w.heap.size := by
      rcases Nat.lt_or_ge b w.heap.size with h' | h'
      · exact h'
      · simp [Array.getElem?_eq_none h'] at hbk
    have : (w.alloc (.cells cs 5)).heap[b]? = _ := (Lib.alloc_old w _ b hlt).trans hbk
    rw [Lib.cell_of_heap this]; rfl
  have f2 : (w.alloc (.cells cs 5)).frozen? ⟨b, 1, none⟩ = false := by
    have hlt : b < w.heap.size := by
      rcases Nat.lt_or_ge b w.heap.size with h' | h'
      · exact h'
      · simp [Array.getElem?_eq_none h'] at hbk
    exact Lib.frozen_of_heap ((Lib.alloc_old w _ b hlt).trans hbk) 1
  have hcopy : ∀ W : World, (Builtin.copy_ #[59, 59] 3 #[.slice (some ⟨w.heap.size, 0, none⟩) 0 cs.size, .slice none 0 0]).run Tryz.prog W = .ok (goInt 0) W :=
    fun W => run_copy_none W 59 59 3 5 _ _ 0 cs.size 0 0 Tryz.underlying59 (by rw [hi]; exact congrArg some hz1) rfl
  clear hw
  go_enter Tryz.func187, Tryz.ntmps187
  go_wp2
  have hfin := Lib.grown_fresh (T := 92) (e := 5) (cs := cs) hB hbk hBw (hmax (by unfold maxLen; omega)) (by decide)
  go_region
  all_goals (go_wp2; go_end0; exact ⟨rfl, hfin⟩)

set_option maxHeartbeats 2000000 in
set_option maxRecDepth 1000000 in
theorem sb_Grow_fresh (B b n : Nat) (w : World) (hB : B ≤ b) (hbk : w.heap[b]? = some (.cells #[.pointer none, .slice none 0 0] 92 (0, 0))) (hBw : B ≤ w.heap.size) (hn : n ≤ 281474976710656) :
    Calls Tryz.prog 120 #[.pointer (some ⟨b, 0, none⟩), .int .i64 n] w fun e w' => e = .returned (.tuple #[]) ∧ (Lib.BuilderAt 92 5 B b (.pointer (some ⟨b, 0, none⟩)) [] w' ∧ Below B w w') := by
  have hbk1 : (w.setCell ⟨b, 0, none⟩ (.pointer (some ⟨b, 0, none⟩))).heap[b]? = some (.cells #[.pointer (some ⟨b, 0, none⟩), .slice none 0 0] 92 (0, 0)) := by
    simp [World.setCell, Array.getElem?_modify, hbk]
  have c1 : (w.setCell ⟨b, 0, none⟩ (.pointer (some ⟨b, 0, none⟩))).cell? ⟨b, 1, none⟩ = some (.slice none 0 0) := by rw [Lib.cell_of_heap hbk1]; rfl
  have hb1 : Below B w (w.setCell ⟨b, 0, none⟩ (.pointer (some ⟨b, 0, none⟩))) := (Below.refl B w).setCell (p := ⟨b, 0, none⟩) hB _
  go_enter Tryz.func120, Tryz.ntmps120
  have hU : Lib.BuilderAt 92 5 B b (.pointer (some ⟨b, 0, none⟩)) [] (w.setCell ⟨b, 0, none⟩ (.pointer (some ⟨b, 0, none⟩))) := ⟨hB, .slice none 0 0, hbk1, World.ownsRow_nil _ _ _ _, by simp [Value.ownBlock]⟩
  have c1' : (w.setCell ⟨b, 0, none⟩ (.pointer (some ⟨b, 0, none⟩))).drew.cell? ⟨b, 1, none⟩ = some (.slice none 0 0) := c1
  go_wp2_with (go_at_call 119; refine (sb_copyCheck_fresh b w (by rw [Lib.cell_of_heap hbk]; rfl) (by simp [World.shape?, hbk]) (Lib.frozen_of_heap hbk 0)).mono ?_; rintro e w' ⟨rfl, rfl⟩)
  go_region
  all_goals go_wp2_with (go_at_call 187; refine (sb_grow_fresh B b n (w.setCell ⟨b, 0, none⟩ (.pointer (some ⟨b, 0, none⟩))).drew hB hbk1 (by simpa [World.setCell, World.drew, -World.drew_eq] using hBw) hn).mono ?_; rintro e w' ⟨rfl, h1, h2⟩)
  all_goals first
    | (go_end0; exact ⟨rfl, h1, hb1.drew.trans h2⟩)
    | (go_end0; exact ⟨rfl, hU.drew, hb1.drew⟩)

def joinB (xs : List ByteArray) (sep : ByteArray) : ByteArray := ⟨(Lib.join (xs.map bl) (bl sep)).toArray⟩
set_option maxRecDepth 100000 in
set_option maxHeartbeats 1000000 in
theorem str_Join_none (a : Option Addr) (c : Nat) (sep : ByteArray) (w : World) :
    Calls Tryz.prog 70 #[.slice a 0 c, .string sep] w fun e w' => e = .returned (.string ⟨#[]⟩) ∧ w' = w := by
  go_enter Tryz.func70, Tryz.ntmps70
  go_wp2
  go_ret
  exact ⟨rfl, rfl⟩
set_option maxRecDepth 100000 in
set_option maxHeartbeats 1000000 in
theorem str_Join_one (bk o c : Nat) (x sep : ByteArray) (w : World) (hc : w.cell? ⟨bk, o, none⟩ = some (.string x)) :
    Calls Tryz.prog 70 #[.slice (some ⟨bk, o, none⟩) 1 c, .string sep] w fun e w' => e = .returned (.string x) ∧ w' = w := by
  go_enter Tryz.func70, Tryz.ntmps70
  go_wp2
  go_ret
  exact ⟨rfl, rfl⟩
set_option maxHeartbeats 8000000 in
set_option maxRecDepth 100000 in
theorem str_Join_many (bk o c : Nat) (xs : List ByteArray) (sep : ByteArray) (w : World)
    (hcells : ∀ (j : Nat) x, xs[j]? = some x → w.cell? ⟨bk, o + j, none⟩ = some (.string x))
    (hbk : bk < w.heap.size) (h2 : 2 ≤ xs.length) (hN : xs.length ≤ 140737488355328) (hcap : xs.length ≤ c)
    (hlen : (Lib.join (xs.map (·.data.toList)) sep.data.toList).length ≤ 140737488355328) :
    Calls Tryz.prog 70 #[.slice (some ⟨bk, o, none⟩) xs.length c, .string sep] w fun e w' => e = .returned (.string ⟨(Lib.join (xs.map (·.data.toList)) sep.data.toList).toArray⟩) ∧ Below w.heap.size w w' := by
  have HC := Any.hidJ hcells
  clear hcells
  obtain ⟨x0, r, hxs⟩ : ∃ x0 r, xs = x0 :: r := by
    cases xs with
    | nil => simp at h2
    | cons a t => exact ⟨a, t, rfl⟩
  have hjl : sep.size * (xs.length - 1) + Lib.lens (xs.map (·.data.toList)) ≤ 140737488355328 := by
    have := Lib.join_length x0.data.toList (r.map (·.data.toList)) sep.data.toList
    rw [hxs] at hlen ⊢
    simp only [List.map_cons] at hlen ⊢
    rw [this, List.length_map] at hlen
    rw [Lib.size_eq, List.length_cons, Nat.add_sub_cancel]
    exact hlen
  have hmul : sep.size * (xs.length - 1) ≤ 140737488355328 := by omega
  generalize hM : sep.size * (xs.length - 1) = M at hjl hmul
  have hcast : ((xs.length : Int) - 1) = ((xs.length - 1 : Nat) : Int) := by omega
  have hlt : sep.size < 9223372036854775807 / (xs.length - 1) := by
    have : sep.size + 1 ≤ 9223372036854775807 / (xs.length - 1) := by
      rw [Nat.le_div_iff_mul_le (by omega), Nat.add_mul, hM]
      omega
    omega
  have hdv : ¬ (9223372036854775807 / ((xs.length : Int) - 1) ≤ (sep.size : Int)) := by
    have e : (9223372036854775807 : Int) / ((xs.length - 1 : Nat) : Int) = ((9223372036854775807 / (xs.length - 1) : Nat) : Int) := IntWalk.up_div (x := 9223372036854775807) rfl rfl
    rw [hcast, e]
    generalize 9223372036854775807 / (xs.length - 1) = q at hlt
    omega
  have hprod : wrap64 ((sep.size : Int) * ((xs.length : Int) - 1)) = (M : Int) := by
    have e : (sep.size : Int) * ((xs.length - 1 : Nat) : Int) = ((sep.size * (xs.length - 1) : Nat) : Int) := IntWalk.up_mul rfl rfl
    rw [hcast, e, hM]
    exact IntWalk.wrap64_in _ ⟨by omega, by omega⟩
  have hM0 : sep.size = 0 → M = 0 := fun h => by rw [← hM, h, Nat.zero_mul]
  clear hlt hcast
  have hne0 : ((xs.length : Int) == 0) = false := beq_eq_false_iff_ne.2 (by omega)
  have hne1 : ((xs.length : Int) == 1) = false := beq_eq_false_iff_ne.2 (by omega)
  have Hxs := Any.hidJ hxs
  have Hlen := Any.hidJ hlen
  clear hxs hlen
  go_enter Tryz.func70, Tryz.ntmps70
  go_wp2_with fail
  all_goals (
    go_loop [5, 41] (fun n i => ∃ k : Nat, k ≤ xs.length ∧ i = .int .i64 k ∧ n = .int .i64 ((M + Lib.lens ((xs.map (·.data.toList)).take k) : Nat) : Int)) (fun _ i => xs.length - (intOf i).toNat)
    case atStart => exact ⟨0, Nat.zero_le _, rfl, by first | (simp [Lib.lens]; done) | (have := hM0 (by omega); simp [Lib.lens, this])⟩
    case round =>
      obtain ⟨k, hk, rfl, rfl⟩ := hrel
      by_cases hkn : k < xs.length
      · obtain ⟨x, hx⟩ : ∃ x, xs[k]? = some x := ⟨xs[k], List.getElem?_eq_getElem hkn⟩
        have hc := HC.out k x hx
        have hstep := Lib.lens_take_succ (xs.map (·.data.toList)) k x.data.toList (by simp [hx])
        have hbound : Lib.lens ((xs.map (·.data.toList)).take (k + 1)) ≤ Lib.lens (xs.map (·.data.toList)) := Lib.lens_take_le _ _
        rw [← Lib.size_eq] at hstep
        generalize hA1 : Lib.lens ((xs.map (·.data.toList)).take (k + 1)) = A1 at hstep hbound
        generalize Lib.lens ((xs.map (·.data.toList)).take k) = A0 at hstep
        have HA1 := Any.hidJ hA1
        clear hA1
        go_wp2
        exact ⟨⟨k + 1, by omega, by go_num, by rw [HA1.out]; refine congrArg _ ?_; omega⟩, by simp [intOf]; omega⟩
      · have hke : k = xs.length := by omega
        subst hke
        have hall : (xs.map (·.data.toList)).take xs.length = xs.map (·.data.toList) := List.take_of_length_le (by simp)
        rw [hall]
        generalize hT : Lib.lens (xs.map (·.data.toList)) = T at hjl
        have HT := Any.hidJ hT
        clear hT hall
        go_wp2_with fail
        have hMT : ((M : Int) + (T : Int)) = ((M + T : Nat) : Int) := by omega
        rw [hMT]
        refine (sb_Grow_fresh w.heap.size w.heap.size (M + T) _ (Nat.le_refl _) (heap_alloc_new w _) (by simp) (by omega)).mono ?_
        rintro e w1 ⟨rfl, h1, hb1⟩
        have hb1' : Below w.heap.size w w1 := ((Below.refl w.heap.size w).alloc (Nat.le_refl _) _).trans hb1
        have hx0 : xs[0]? = some x0 := by rw [Hxs.out]; rfl
        have hc0 : w1.cell? ⟨bk, o, none⟩ = some (.string x0) := by
          rw [hb1'.cell (p := ⟨bk, o, none⟩) hbk]
          exact HC.out 0 x0 hx0
        have H1 := Any.hidJ (Or.inr (Lib.BuilderAtF.of h1) : SbAt w.heap.size w.heap.size [] w1)
        have Hb1 := Any.hidJ hb1'
        have hBw1 : w.heap.size ≤ w1.heap.size := hb1'.size
        clear h1 hb1 hb1' hMT
        have hwhole : Lib.join (xs.map (·.data.toList)) sep.data.toList = x0.data.toList ++ Lib.joinTail sep.data.toList (r.map (·.data.toList)) := by
          rw [Hxs.out, List.map_cons, Lib.join_cons]
        have hCle : ∀ k, (x0.data.toList ++ Lib.joinTail sep.data.toList ((r.map (·.data.toList)).take k)).length ≤ 140737488355328 := fun k => by
          have h1 := Hlen.out
          rw [hwhole, List.length_append] at h1
          have h2 := Lib.joinTail_take_le sep.data.toList (r.map (·.data.toList)) k
          rw [List.length_append]
          omega
        have HCle := Any.hidJ hCle
        have Hwhole := Any.hidJ hwhole
        clear hCle hwhole
        go_wp2_with fail
        refine (sb_WriteString w.heap.size w.heap.size [] x0 w1 H1.out (by have := HCle.out 0; simp [Lib.joinTail] at this ⊢; omega) hBw1).mono ?_
        rintro e w2 ⟨rfl, h2', hb2, _⟩
        have hstart : ([] : List UInt8) ++ bl x0 = x0.data.toList ++ Lib.joinTail sep.data.toList ((r.map (·.data.toList)).take 0) := by
          simp [Lib.joinTail, bl]
        rw [hstart] at h2'
        have H2 := Any.hidJ h2'
        have Hb2 := Any.hidJ (Hb1.out.trans hb2)
        clear h2' hb2 hstart
        have hrl : r.length = xs.length - 1 := by rw [Hxs.out]; simp
        go_wp2_with fail
        go_loopw [65] (fun i wr => ∃ k : Nat, k ≤ r.length ∧ i = .int .i64 k ∧ Hid (SbAt w.heap.size w.heap.size (x0.data.toList ++ Lib.joinTail sep.data.toList ((r.map (·.data.toList)).take k)) wr) ∧ Hid (Below w.heap.size w wr)) (fun i _ => r.length - (intOf i).toNat)
        case atStart => exact ⟨0, Nat.zero_le _, rfl, H2, Hb2⟩
        case round =>
          obtain ⟨k, hk', rfl, HB, HW⟩ := hrel
          by_cases hkr : k < r.length
          · obtain ⟨y, hy⟩ : ∃ y, r[k]? = some y := ⟨r[k], List.getElem?_eq_getElem hkr⟩
            have hxy : xs[k + 1]? = some y := by rw [Hxs.out]; simpa using hy
            have hcy : wr.cell? ⟨bk, o + 1 + k, none⟩ = some (.string y) := by
              rw [HW.out.cell (p := ⟨bk, o + 1 + k, none⟩) hbk, show o + 1 + k = o + (k + 1) by omega]
              exact HC.out (k + 1) y hxy
            have hBw : w.heap.size ≤ wr.heap.size := HW.out.size
            have hnext : x0.data.toList ++ Lib.joinTail sep.data.toList ((r.map (·.data.toList)).take k) ++ bl sep ++ bl y = x0.data.toList ++ Lib.joinTail sep.data.toList ((r.map (·.data.toList)).take (k + 1)) := by
              rw [Lib.joinTail_take_succ sep.data.toList (r.map (·.data.toList)) k y.data.toList (by simp [hy])]
              simp only [bl, List.append_assoc]
            have hl1 := HCle.out (k + 1)
            rw [Lib.joinTail_take_succ sep.data.toList (r.map (·.data.toList)) k y.data.toList (by simp [hy])] at hl1
            simp only [List.length_append, ← Lib.size_eq] at hl1
            have hl0 : (x0.data.toList ++ Lib.joinTail sep.data.toList ((r.map (·.data.toList)).take k)).length = x0.size + (Lib.joinTail sep.data.toList ((r.map (·.data.toList)).take k)).length := by
              rw [List.length_append, ← Lib.size_eq]
            have hl2 : (x0.data.toList ++ Lib.joinTail sep.data.toList ((r.map (·.data.toList)).take k) ++ bl sep).length = x0.size + (Lib.joinTail sep.data.toList ((r.map (·.data.toList)).take k)).length + sep.size := by
              rw [List.length_append, hl0, Lib.size_eq sep]
            generalize (Lib.joinTail sep.data.toList ((r.map (·.data.toList)).take k)).length = J at hl0 hl1 hl2
            have Hn := Any.hidJ hnext
            have HL0 := Any.hidJ hl0
            have HL2 := Any.hidJ hl2
            clear hnext hy hxy hl0 hl2
            go_wp2_with fail
            refine (sb_WriteString w.heap.size w.heap.size _ sep wr HB.out (by rw [HL0.out]; omega) hBw).mono ?_
            rintro e w3 ⟨rfl, h3, hb3, _⟩
            have hBw3 : w.heap.size ≤ w3.heap.size := Nat.le_trans hBw hb3.size
            have H3 := Any.hidJ h3
            have Hb3 := Any.hidJ hb3
            clear h3 hb3
            go_wp2_with fail
            refine (sb_WriteString w.heap.size w.heap.size _ y w3 H3.out (by rw [HL2.out]; omega) hBw3).mono ?_
            rintro e w4 ⟨rfl, h4, hb4, _⟩
            rw [Hn.out] at h4
            have H4 := Any.hidJ h4
            have Hb4 := Any.hidJ ((HW.out.trans Hb3.out).trans hb4)
            clear h4 hb4
            go_wp2
            exact ⟨⟨k + 1, by omega, by go_num, H4, Hb4⟩, by simp [intOf]; omega⟩
          · have hke : k = r.length := by omega
            subst hke
            have hfull : (r.map (·.data.toList)).take r.length = r.map (·.data.toList) := List.take_of_length_le (by simp)
            have hB' := HB.out
            rw [hfull, ← Hwhole.out] at hB'
            have hBw : w.heap.size ≤ wr.heap.size := HW.out.size
            go_wp2_with fail
            refine (Tryz.Builder_String_any_f w.heap.size w.heap.size _ wr hB' hBw).mono ?_
            rintro e w5 ⟨rfl, _, hb5⟩
            have Hb5 := Any.hidJ (HW.out.trans hb5)
            clear hb5 hB'
            go_wp2
            go_ret
            exact ⟨rfl, Hb5.out⟩)
theorem joinB_one (x sep : ByteArray) : joinB [x] sep = x := by unfold joinB; rw [List.map_cons, List.map_nil, Lib.join_one]
end Go.Proofs.YtnhkgfgbhedphaaGreatDoor
namespace Go.Proofs.YtnhkgfgbhedphaaGreatDoor
open Go.RowKit

def wordsL (k : Int) : List ByteArray := if k = 1 then [wHas] else if k = 2 then [wHave] else if k = 3 then [wWithin] else if k = 4 then [wBe, wEmpty] else if k = 5 then [wApart] else if k = 6 then [wIn] else []
def headW (k : Int) : ByteArray := if univB k = true then wAlways else wCan
def partsQ (q : Qd) : List ByteArray := headW q.k :: roleT q.a :: (wordsL q.k ++ ((if secB q.k = true then [roleT q.b] else []) ++ q.us))
def TokL (l : List UInt8) (ts : List (Int × List UInt8)) : Prop := ∀ (f p : Nat) (acc : List Tok), l.length ≤ f → ∃ us : List Tok, toks f l p acc = (acc ++ us, 0, 0) ∧ us.map (fun t => (t.kind, t.text)) = ts
theorem tokL_nil : TokL [] [] := fun f p acc _ => ⟨[], by rw [toks_nil, List.append_nil], rfl⟩
theorem tokL_step {l r : List UInt8} {ts : List (Int × List UInt8)} (n : Nat) (t : Nat → Tok) (hk : ∀ p, ((t p).kind, (t p).text) = ((t 0).kind, (t 0).text)) (hn : l.length = n + 1 + r.length) (h : ∀ f p acc, toks (f + 1) l p acc = toks f r (p + n + 1) (acc ++ [t p])) (hr : TokL r ts) : TokL l (((t 0).kind, (t 0).text) :: ts) := fun f p acc hf => by
  obtain ⟨f, rfl⟩ : ∃ g, f = g + 1 := ⟨f - 1, by omega⟩
  obtain ⟨us, h1, h2⟩ := hr f (p + n + 1) (acc ++ [t p]) (by omega)
  exact ⟨t p :: us, by rw [h, h1, List.append_assoc]; rfl, by rw [List.map_cons, h2, hk p]⟩
theorem tokL_big {w r : List UInt8} {ts : List (Int × List UInt8)} (hw : isP 65 90 w = true) (hs : stops r) (hr : TokL r ts) : TokL (w ++ r) ((1, w) :: ts) := by
  have hl := (isP_len hw).1
  exact tokL_step (w.length - 1) (fun p => ⟨1, w, p + 1⟩) (fun _ => rfl) (by rw [List.length_append]; omega) (fun f p acc => by rw [toks_big w r f p acc hw hs]; congr 1; omega) hr
theorem tokL_small {w r : List UInt8} {ts : List (Int × List UInt8)} (hw : isP 97 122 w = true) (hs : stops r) (hr : TokL r ts) : TokL (w ++ r) ((2, w) :: ts) := by
  have hl := (isP_len hw).1
  exact tokL_step (w.length - 1) (fun p => ⟨2, w, p + 1⟩) (fun _ => rfl) (by rw [List.length_append]; omega) (fun f p acc => by rw [toks_small w r f p acc hw hs]; congr 1; omega) hr
theorem tokL_dot {r : List UInt8} {ts : List (Int × List UInt8)} (hr : TokL r ts) : TokL (46 :: r) ((3, [46]) :: ts) :=
  tokL_step 0 (fun p => ⟨3, [46], p + 1⟩) (fun _ => rfl) (by rw [List.length_cons]; omega) (fun f p acc => by rw [toks_dot]) hr
theorem tokL_blank {r : List UInt8} {ts : List (Int × List UInt8)} (hr : TokL r ts) : TokL (32 :: r) ts := fun f p acc hf => by
  obtain ⟨f, rfl⟩ : ∃ g, f = g + 1 := ⟨f - 1, by rw [List.length_cons] at hf; omega⟩
  obtain ⟨us, h1, h2⟩ := hr f (p + 1) acc (by rw [List.length_cons] at hf; omega)
  exact ⟨us, by rw [toks_blank, h1], h2⟩
theorem tokL_role {x : Rl} {r : List UInt8} {ts : List (Int × List UInt8)} (h : isRole x = true) (hs : stops r) (hr : TokL r ts) : TokL (bl (roleT x) ++ r) ((1, bl x.o) :: (3, [46]) :: (2, bl x.n) :: ts) := by
  simp only [isRole, Bool.and_eq_true] at h
  have e : bl (roleT x) ++ r = bl x.o ++ 46 :: (bl x.n ++ r) := by simp [roleT, bl]
  rw [e]
  exact tokL_big h.1 (stops_cons _ a46) (tokL_dot (tokL_small h.2 hs hr))
def tailL (xs : List ByteArray) : List UInt8 := (xs.map (fun x => 32 :: bl x)).flatten
theorem tailL_stops (xs : List ByteArray) : stops (tailL xs) := by
  cases xs with
  | nil => exact stops_nil
  | cons x r => exact stops_cons _ a32
theorem tailL_app (xs ys : List ByteArray) : tailL (xs ++ ys) = tailL xs ++ tailL ys := by simp [tailL]
theorem tailL_cons (x : ByteArray) (xs : List ByteArray) : tailL (x :: xs) = 32 :: (bl x ++ tailL xs) := by simp [tailL]
theorem tokL_us : ∀ (us : List ByteArray), (∀ x ∈ us, isP 65 90 (bl x) = true) → TokL (tailL us) (us.map (fun x => (1, bl x)))
  | [], _ => tokL_nil
  | x :: r, h => by
    rw [tailL_cons]
    exact tokL_blank (tokL_big (h x (by simp)) (tailL_stops r) (tokL_us r (fun y hy => h y (by simp [hy]))))
theorem word_isP' : ∀ x ∈ [wAlways, wCan, wHas, wHave, wWithin, wBe, wEmpty, wApart, wIn], isP 97 122 (bl x) = true := by decide
theorem tokL_words {k : Int} {r : List ByteArray} {ts : List (Int × List UInt8)} (hr : TokL (tailL r) ts) : TokL (tailL (wordsL k ++ r)) ((wordsL k).map (fun x => (2, bl x)) ++ ts) := by
  have one : ∀ x ∈ [wAlways, wCan, wHas, wHave, wWithin, wBe, wEmpty, wApart, wIn], ∀ (r : List ByteArray) ts, TokL (tailL r) ts → TokL (tailL (x :: r)) ((2, bl x) :: ts) := fun x hx r ts h => by
    rw [tailL_cons]
    exact tokL_blank (tokL_small (word_isP' x hx) (tailL_stops r) h)
  unfold wordsL
  split
  · exact one _ (by simp) _ _ hr
  split
  · exact one _ (by simp) _ _ hr
  split
  · exact one _ (by simp) _ _ hr
  split
  · exact one _ (by simp) _ _ (one _ (by simp) _ _ hr)
  split
  · exact one _ (by simp) _ _ hr
  split
  · exact one _ (by simp) _ _ hr
  · exact hr
def lineQ (q : Qd) : List UInt8 := bl (headW q.k) ++ tailL (roleT q.a :: (wordsL q.k ++ ((if secB q.k = true then [roleT q.b] else []) ++ q.us)))
def tokQ (q : Qd) : List (Int × List UInt8) := (2, bl (headW q.k)) :: (1, bl q.a.o) :: (3, [46]) :: (2, bl q.a.n) :: ((wordsL q.k).map (fun x => (2, bl x)) ++ ((if secB q.k = true then [(1, bl q.b.o), (3, [46]), (2, bl q.b.n)] else []) ++ q.us.map (fun x => (1, bl x))))
theorem tokL_line (q : Qd) (ha : isRole q.a = true) (hb : secB q.k = true → isRole q.b = true) (hu : ∀ x ∈ q.us, isP 65 90 (bl x) = true) : TokL (lineQ q) (tokQ q) := by
  unfold lineQ tokQ
  refine tokL_small (by unfold headW; split <;> decide) (tailL_stops _) ?_
  rw [tailL_cons]
  refine tokL_blank (tokL_role ha (tailL_stops _) (tokL_words ?_))
  by_cases hs : secB q.k = true
  · rw [if_pos hs, if_pos hs]
    show TokL (tailL (roleT q.b :: q.us)) _
    rw [tailL_cons]
    exact tokL_blank (tokL_role (hb hs) (tailL_stops _) (tokL_us _ hu))
  · rw [if_neg hs, if_neg hs]
    exact tokL_us _ hu
theorem parts_line (q : Qd) : bl (joinB (partsQ q) ⟨#[32]⟩) = lineQ q := by
  unfold joinB partsQ lineQ tailL
  rw [List.map_cons, Lib.join_cons, bl_mk]
  unfold Lib.joinTail
  rw [List.map_map]
  rfl
end Go.Proofs.YtnhkgfgbhedphaaGreatDoor
