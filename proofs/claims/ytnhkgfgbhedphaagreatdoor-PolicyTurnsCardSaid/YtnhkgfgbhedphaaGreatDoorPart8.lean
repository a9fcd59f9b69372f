/- A query that may be is what its line is read as; what is read may be. Which queries may be: as the program tells it, and as rows in order. The lines of a text, in plain Lean. slices.IndexFunc and ContainsFunc at texts and at queries (printed by gen_idx.py). slices.Grow and Concat at rows of roles, the row being the call's own (rl_GrowO, rl_Concat of RlConc, turned); slices.Clone of texts. query.Roles, policy.roles, to the letter. names.All, query.Prins, policy.Prins, policy.Names, to the letter (printed by gen_polprins.py). Plain laws of rows of roles in order (printed by gen_rlall.py out of OrdLaw, RefSort, StFns). -/
import Derived.Test.YtnhkgfgbhedphaaGreatDoorPart7
import Derived.Test.YtnhkgfgbhedphaaGreatDoorPart6
import Derived.Test.YtnhkgfgbhedphaaGreatDoorPart1
import Derived.Lib.IndexLaws
import Derived.Test.YtnhkgfgbhedphaaGreatDoorPart5
import Derived.Test.YtnhkgfgbhedphaaGreatDoorShelf
import Derived.Test.YtnhkgfgbhedphaaGreatDoorPart3
namespace Go.Proofs.YtnhkgfgbhedphaaGreatDoor
open Go.RowKit

theorem insS_last {l : List ByteArray} {x : ByteArray} (h : AscB (l ++ [x])) : insSB l x = l ++ [x] :=
  asc_uniqueB _ _ (insS_ascB (List.Pairwise.sublist (List.sublist_append_left _ _) h) _) h (fun y => by rw [insS_memB]; simp)
structure GoodQ (q : Qd) : Prop where
  lo : 1 ≤ q.k
  hi : q.k ≤ 6
  a : isRole q.a = true
  p : ∀ x ∈ q.us, isP 65 90 (bl x) = true
  asc : AscB q.us
  few : q.us.length ≤ 12
  two : 5 ≤ q.k → isRole q.b = true
  one : ¬ 5 ≤ q.k → q.b = noR
  none : 4 ≤ q.k → q.us = []
  some : q.k ≤ 2 → ¬ q.us.length = 0
theorem rest_us (k : Int) (a b : Rl) (e : Int) (hk : k ≤ 3) : ∀ (us : List ByteArray) (l : List Tok) (acc : List ByteArray), l.map (fun t => (t.kind, t.text)) = us.map (fun x => (1, bl x)) → AscB (acc ++ us) → (acc ++ us).length ≤ 12 → (k ≤ 2 → ¬ (acc ++ us).length = 0) →
    restQ k ⟨k, a, b, acc⟩ e l = (⟨k, a, b, acc ++ us⟩, 0, 0)
  | [], l, acc, hl, _, _, hs => by
    obtain rfl : l = [] := by simpa using hl
    unfold restQ
    rw [if_neg (fun h => hs h.1 (by rw [List.append_nil]; exact h.2)), List.append_nil]
  | x :: us, l, acc, hl, ha, hn, hs => by
    match l, hl with
    | t :: l, hl =>
      simp only [List.map_cons, List.cons.injEq, Prod.mk.injEq] at hl
      obtain ⟨⟨h1, h2⟩, h3⟩ := hl
      have hx : t.tx = x := by unfold Tok.tx; rw [h2]
      have e1 : acc ++ x :: us = (acc ++ [x]) ++ us := by simp
      rw [e1] at ha hn hs ⊢
      have hi : insSB acc t.tx = acc ++ [x] := by rw [hx]; exact insS_last (List.Pairwise.sublist (List.sublist_append_left _ _) ha)
      rw [restQ, if_pos ⟨hk, h1⟩]
      show (if 12 < (insSB acc t.tx).length then _ else restQ k ⟨k, a, b, insSB acc t.tx⟩ e l) = _
      rw [hi, if_neg (by rw [List.length_append] at hn; omega)]
      exact rest_us k a b e hk us l (acc ++ [x]) h3 ha hn hs
theorem map_cons2 {l : List Tok} {k : Int} {w : List UInt8} {ts : List (Int × List UInt8)} (h : l.map (fun t => (t.kind, t.text)) = (k, w) :: ts) : ∃ c r, l = ⟨k, w, c⟩ :: r ∧ r.map (fun t => (t.kind, t.text)) = ts := by
  match l, h with
  | ⟨a, b, c⟩ :: r, h =>
    simp only [List.map_cons, List.cons.injEq, Prod.mk.injEq] at h
    obtain ⟨⟨h1, h2⟩, h3⟩ := h
    subst h1 h2
    exact ⟨c, r, rfl, h3⟩
theorem role_atQ (x : Rl) (c1 c2 c3 : Int) (l : List Tok) (e : Int) : (Rd.mk (⟨1, bl x.o, c1⟩ :: ⟨3, [46], c2⟩ :: ⟨2, bl x.n, c3⟩ :: l) e 0 0).role = (x, ⟨l, e, 0, 0⟩) := by
  rw [role_def, take_yes _ _ _ _ _ rfl]
  dsimp only
  rw [take_yes _ _ _ _ _ rfl]
  dsimp only
  rw [take_yes _ _ _ _ _ rfl]
theorem wordq_at (ws : List ByteArray) (x : ByteArray) (c : Int) (l : List Tok) (e : Int) (h : hasB ws x = true) : (Rd.mk (⟨2, bl x, c⟩ :: l) e 0 0).word ws = (x, ⟨l, e, 0, 0⟩) := by
  unfold Rd.word
  have ht : (⟨2, bl x, c⟩ : Tok).tx = x := ba_bl x
  rw [want_yes _ _ _ _ _ (by unfold wordIn; rw [ht, h]; rfl), ht]
theorem ask_at (k : Int) (h1 : 1 ≤ k) (h6 : k ≤ 6) (l : List Tok) (r : List (Int × List UInt8)) (e : Int) (h : l.map (fun t => (t.kind, t.text)) = (wordsL k).map (fun x => (2, bl x)) ++ r) :
    ∃ l', (Rd.mk l e 0 0).ask (univB k) = (k, ⟨l', e, 0, 0⟩) ∧ l'.map (fun t => (t.kind, t.text)) = r := by
  have hk : k = 1 ∨ k = 2 ∨ k = 3 ∨ k = 4 ∨ k = 5 ∨ k = 6 := by omega
  rcases hk with rfl | rfl | rfl | rfl | rfl | rfl
  · obtain ⟨c, l', rfl, h'⟩ := map_cons2 (w := bl wHas) h
    exact ⟨l', by unfold Rd.ask; rw [show askW (univB 1) = [wHas, wWithin, wApart, wIn] from rfl, wordq_at _ _ _ _ _ (by decide), kw1]; rfl, h'⟩
  · obtain ⟨c, l', rfl, h'⟩ := map_cons2 (w := bl wHave) h
    exact ⟨l', by unfold Rd.ask; rw [show askW (univB 2) = [wHave, wBe] from rfl, wordq_at _ _ _ _ _ (by decide), kw2]; rfl, h'⟩
  · obtain ⟨c, l', rfl, h'⟩ := map_cons2 (w := bl wWithin) h
    exact ⟨l', by unfold Rd.ask; rw [show askW (univB 3) = [wHas, wWithin, wApart, wIn] from rfl, wordq_at _ _ _ _ _ (by decide), kw3]; rfl, h'⟩
  · obtain ⟨c, l1, rfl, h'⟩ := map_cons2 (w := bl wBe) h
    obtain ⟨c2, l', rfl, h''⟩ := map_cons2 (w := bl wEmpty) h'
    exact ⟨l', by unfold Rd.ask; rw [show askW (univB 4) = [wHave, wBe] from rfl, wordq_at _ _ _ _ _ (by decide), kw4, if_pos rfl, wordq_at _ _ _ _ _ (by decide)], h''⟩
  · obtain ⟨c, l', rfl, h'⟩ := map_cons2 (w := bl wApart) h
    exact ⟨l', by unfold Rd.ask; rw [show askW (univB 5) = [wHas, wWithin, wApart, wIn] from rfl, wordq_at _ _ _ _ _ (by decide), kw5]; rfl, h'⟩
  · obtain ⟨c, l', rfl, h'⟩ := map_cons2 (w := bl wIn) h
    exact ⟨l', by unfold Rd.ask; rw [show askW (univB 6) = [wHas, wWithin, wApart, wIn] from rfl, wordq_at _ _ _ _ _ (by decide), kw6]; rfl, h'⟩
theorem read_line (q : Qd) (h : GoodQ q) (l : List Tok) (e : Int) (hl : l.map (fun t => (t.kind, t.text)) = tokQ q) : readQ l e = (q, 0, 0) := by
  obtain ⟨k, a, b, us⟩ := q
  obtain ⟨h1, h6, ha, hp, hasc, hfew, htwo, hone, hnone, hsome⟩ := h
  dsimp only at h1 h6 ha hp hasc hfew htwo hone hnone hsome
  unfold tokQ at hl
  obtain ⟨c0, l0, rfl, hl0⟩ := map_cons2 hl
  clear hl
  obtain ⟨c1, l1, rfl, hl1⟩ := map_cons2 hl0
  clear hl0
  obtain ⟨c2, l2, rfl, hl2⟩ := map_cons2 hl1
  clear hl1
  obtain ⟨c3, l3, rfl, hl3⟩ := map_cons2 hl2
  clear hl2
  have hw : hasB [wAlways, wCan] (headW k) = true := by unfold headW; split <;> decide
  have hd : decide (headW k = wAlways) = univB k := by
    unfold headW
    cases univB k <;> decide
  obtain ⟨l', ea, hl'⟩ := ask_at k h1 h6 l3 _ e hl3
  unfold readQ midQ
  rw [wordq_at _ _ _ _ _ hw]
  dsimp only
  rw [hd, role_atQ]
  dsimp only
  rw [ea]
  dsimp only
  clear hl3 ea hw hd
  have hs : secB k = decide (5 ≤ k) := by
    have hk : k = 1 ∨ k = 2 ∨ k = 3 ∨ k = 4 ∨ k = 5 ∨ k = 6 := by omega
    rcases hk with rfl | rfl | rfl | rfl | rfl | rfl <;> rfl
  by_cases h5 : 5 ≤ k
  · have hus := hnone (by omega)
    subst hus
    rw [hs, if_pos (decide_eq_true h5)] at hl'
    obtain ⟨d1, l4, rfl, hl4⟩ := map_cons2 hl'
    obtain ⟨d2, l5, rfl, hl5⟩ := map_cons2 hl4
    obtain ⟨d3, l6, rfl, hl6⟩ := map_cons2 hl5
    obtain rfl : l6 = [] := by simpa using hl6
    rw [tail_two k (by omega), role_atQ, endQ_nil]
  · have hb := hone h5
    subst hb
    rw [hs, if_neg (by simp [h5]), List.nil_append] at hl'
    by_cases h4 : k = 4
    · subst h4
      have hus := hnone (by omega)
      subst hus
      obtain rfl : l' = [] := by simpa using hl'
      rw [tail_none]
      rfl
    · rw [tail_who k a (by omega)]
      exact rest_us k a noR e (by omega) us l' [] hl' hasc hfew (fun h => hsome h)
theorem isP_size' {lo hi : Int} {x : ByteArray} (h : isP lo hi (bl x) = true) : x.size ≤ 8 := by have := (isP_len h).2; rwa [bl_len] at this
theorem tailL_len (M : Nat) : ∀ (xs : List ByteArray), (∀ x ∈ xs, x.size ≤ M) → (tailL xs).length ≤ xs.length * (M + 1)
  | [], _ => by simp [tailL]
  | x :: r, h => by
    have h1 := tailL_len M r (fun y hy => h y (by simp [hy]))
    have h2 := h x (by simp)
    rw [tailL_cons, List.length_cons, List.length_append, bl_len, List.length_cons, Nat.succ_mul]
    omega
theorem tailL_plain : ∀ (xs : List ByteArray), (∀ x ∈ xs, ∀ c ∈ bl x, ¬ c = 35) → ∀ c ∈ tailL xs, ¬ c = 35
  | [], _ => fun c hc => by cases hc
  | x :: r, h => fun c hc => by
    rw [tailL_cons] at hc
    rcases List.mem_cons.1 hc with rfl | hc
    · decide
    rcases List.mem_append.1 hc with hc | hc
    · exact h x (by simp) c hc
    · exact tailL_plain r (fun y hy => h y (by simp [hy])) c hc
theorem role_plain {x : Rl} (h : isRole x = true) : ∀ c ∈ bl (roleT x), ¬ c = 35 := by
  simp only [isRole, Bool.and_eq_true] at h
  have e : bl (roleT x) = bl x.o ++ 46 :: bl x.n := by simp [roleT, bl]
  intro c hc
  rw [e] at hc
  rcases List.mem_append.1 hc with hc | hc
  · exact isP_plain h.1 c hc
  rcases List.mem_cons.1 hc with rfl | hc
  · decide
  · exact isP_plain h.2 c hc
theorem role_size {x : Rl} (h : isRole x = true) : (roleT x).size ≤ 17 := by
  simp only [isRole, Bool.and_eq_true] at h
  have h1 := isP_size' h.1
  have h2 := isP_size' h.2
  have e : (⟨#[46]⟩ : ByteArray).size = 1 := rfl
  simp only [roleT, ByteArray.size_append, e]
  omega
theorem words_len (k : Int) : (tailL (wordsL k)).length ≤ 9 := by
  unfold wordsL
  split
  · decide
  split
  · decide
  split
  · decide
  split
  · decide
  split
  · decide
  split <;> decide
theorem words_plain (k : Int) : ∀ c ∈ tailL (wordsL k), ¬ c = 35 := by
  unfold wordsL
  split
  · decide
  split
  · decide
  split
  · decide
  split
  · decide
  split
  · decide
  split <;> decide
theorem lineQ_app (q : Qd) : lineQ q = bl (headW q.k) ++ (32 :: (bl (roleT q.a) ++ (tailL (wordsL q.k) ++ (tailL (if secB q.k = true then [roleT q.b] else []) ++ tailL q.us)))) := by
  unfold lineQ
  rw [tailL_cons, tailL_app, tailL_app]
theorem lineQ_plain (q : Qd) (h : GoodQ q) : ∀ c ∈ lineQ q, ¬ c = 35 := by
  rw [lineQ_app]
  intro c hc
  rcases List.mem_append.1 hc with hc | hc
  · unfold headW at hc
    split at hc
    · exact isP_plain (word_isP' _ (by simp)) c hc
    · exact isP_plain (word_isP' _ (by simp)) c hc
  rcases List.mem_cons.1 hc with rfl | hc
  · decide
  rcases List.mem_append.1 hc with hc | hc
  · exact role_plain h.a c hc
  rcases List.mem_append.1 hc with hc | hc
  · exact words_plain _ c hc
  rcases List.mem_append.1 hc with hc | hc
  · refine tailL_plain _ (fun x hx => ?_) c hc
    split at hx
    · rename_i hs
      rw [List.mem_singleton.1 hx]
      refine role_plain (h.two ?_)
      unfold secB at hs
      simp only [Bool.or_eq_true, decide_eq_true_iff] at hs
      omega
    · cases hx
  · exact tailL_plain _ (fun x hx => isP_plain (h.p x hx)) c hc
theorem lineQ_len (q : Qd) (h : GoodQ q) : (lineQ q).length ≤ 200 := by
  rw [lineQ_app]
  have h1 : (bl (headW q.k)).length ≤ 6 := by unfold headW; split <;> decide
  have h2 := role_size h.a
  have h3 := words_len q.k
  have h4 : (tailL (if secB q.k = true then [roleT q.b] else [])).length ≤ 18 := by
    split
    · rename_i hs
      have hb := h.two (by unfold secB at hs; simp only [Bool.or_eq_true, decide_eq_true_iff] at hs; omega)
      have := role_size hb
      rw [tailL_cons]
      simp only [List.length_cons, List.length_append, bl_len]
      have e : (tailL []).length = 0 := rfl
      omega
    · exact Nat.zero_le _
  have h5 := tailL_len 8 q.us (fun x hx => isP_size' (h.p x hx))
  have h6 := h.few
  simp only [List.length_append, List.length_cons, bl_len] at h1 ⊢
  omega
theorem tokens_line (q : Qd) (h : GoodQ q) : ∃ l, tokens (lineQ q) = (l, 0, 0) ∧ l.map (fun t => (t.kind, t.text)) = tokQ q := by
  have hb := bare_same (lineQ_plain q h)
  have hl := lineQ_len q h
  have ht := tokL_line q h.a (fun hs => h.two (by unfold secB at hs; simp only [Bool.or_eq_true, decide_eq_true_iff] at hs; omega)) h.p
  obtain ⟨us, h1, h2⟩ := ht (lineQ q).length 0 [] (Nat.le_refl _)
  refine ⟨us, ?_, h2⟩
  unfold tokens
  rw [if_neg (by omega), hb, h1]
  rfl
theorem fit_pos {k : Int} {i n : Nat} {l : List Tok} (h : fitQ k i l = n + 1) : ∃ t r, l = t :: r ∧ goesQ k i t = true ∧ fitQ k (i + 1) r = n := by
  match l, h with
  | [], h => rw [fitQ_nil] at h; cases h
  | t :: r, h =>
    rw [fitQ_cons] at h
    by_cases hg : i < frontQ k ∧ goesQ k i t = true
    · rw [if_pos hg] at h
      exact ⟨t, r, rfl, hg.2, by omega⟩
    · rw [if_neg hg] at h; cases h
theorem okTok1 {t : Tok} (h : okTok t) (hk : t.kind = 1) : isP 65 90 (bl t.tx) = true := h.1 hk
theorem okTok2 {t : Tok} (h : okTok t) (hk : t.kind = 2) : isP 97 122 (bl t.tx) = true := h.2 hk
theorem okRole {t s : Tok} (h : okTok t) (hs : okTok s) (hk : t.kind = 1) (hk2 : s.kind = 2) : isRole ⟨t.tx, s.tx⟩ = true := by
  unfold isRole
  rw [okTok1 h hk, okTok2 hs hk2]; rfl
theorem rest_good (k : Int) (a b : Rl) (e : Int) : ∀ (l : List Tok) (acc : List ByteArray) (q : Qd) (p : Int), (∀ t ∈ l, okTok t) → AscB acc → (∀ x ∈ acc, isP 65 90 (bl x) = true) → acc.length ≤ 12 → restQ k ⟨k, a, b, acc⟩ e l = (q, p, 0) →
    p = 0 ∧ q.k = k ∧ q.a = a ∧ q.b = b ∧ AscB q.us ∧ (∀ x ∈ q.us, isP 65 90 (bl x) = true) ∧ q.us.length ≤ 12 ∧ (k ≤ 2 → ¬ q.us.length = 0) ∧ (4 ≤ k → q.us = acc)
  | [], acc, q, p, _, ha, hp, hn, h => by
    rw [restQ] at h
    by_cases hc : k ≤ 2 ∧ acc.length = 0
    · rw [if_pos hc] at h
      simp only [Prod.mk.injEq] at h
      exact absurd h.2.2 (by decide)
    · rw [if_neg hc] at h
      simp only [Prod.mk.injEq] at h
      obtain ⟨rfl, h2, _⟩ := h
      exact ⟨h2.symm, rfl, rfl, rfl, ha, hp, hn, fun h => fun h' => hc ⟨h, h'⟩, fun _ => rfl⟩
  | t :: l, acc, q, p, ho, ha, hp, hn, h => by
    rw [restQ] at h
    by_cases hc : k ≤ 3 ∧ t.kind = 1
    · rw [if_pos hc] at h
      dsimp only at h
      by_cases hm : 12 < (insSB acc t.tx).length
      · rw [if_pos hm] at h
        simp only [Prod.mk.injEq] at h
        exact absurd h.2.2 (by decide)
      · rw [if_neg hm] at h
        obtain ⟨e1, e2, e3, e4, e5, e6, e7, e8, _⟩ := rest_good k a b e l (insSB acc t.tx) q p (fun x hx => ho x (by simp [hx])) (insS_ascB ha _) (fun x hx => by
          rcases (insS_memB acc t.tx x).1 hx with hx | rfl
          · exact hp x hx
          · exact okTok1 (ho t (by simp)) hc.2) (by omega) h
        exact ⟨e1, e2, e3, e4, e5, e6, e7, e8, fun h => by omega⟩
    · rw [if_neg hc] at h
      simp only [Prod.mk.injEq] at h
      exact absurd h.2.2 (by decide)
theorem read_good (l : List Tok) (e : Int) (ho : ∀ t ∈ l, okTok t) (q : Qd) (p : Int) (h : readQ l e = (q, p, 0)) : GoodQ q ∧ p = 0 := by
  rw [law_query] at h
  have five : ∀ k : Int, k = 1 ∨ k = 2 ∨ k = 3 → fitQ k 0 l = 5 → kindQ k l e = (q, p, 0) → GoodQ q ∧ p = 0 := fun k hk hf h => by
    obtain ⟨t0, l0, rfl, g0', hf⟩ := fit_pos hf
    obtain ⟨t1, l1, rfl, g1', hf⟩ := fit_pos hf
    obtain ⟨t2, l2, rfl, g2', hf⟩ := fit_pos hf
    obtain ⟨t3, l3, rfl, g3', hf⟩ := fit_pos hf
    obtain ⟨t4, l4, rfl, g4', hf⟩ := fit_pos hf
    rw [g1] at g1'
    rw [g3] at g3'
    have hfr : frontQ k = 5 := by rcases hk with rfl | rfl | rfl <;> rfl
    unfold kindQ at h
    rw [hfr, if_neg (by omega)] at h
    have hr := okRole (ho t1 (by simp)) (ho t3 (by simp)) (of_decide_eq_true g1') (of_decide_eq_true g3')
    obtain ⟨e1, e2, e3, e4, e5, e6, e7, e8, e9⟩ := rest_good k _ _ e l4 [] q p (fun x hx => ho x (by simp [hx])) List.Pairwise.nil (fun x hx => by cases hx) (by simp) h
    exact ⟨⟨by omega, by omega, by rw [e3]; exact hr, e6, e5, e7, fun h => by omega, fun _ => e4, fun h => by omega, fun h => e8 (by omega)⟩, e1⟩
  have eight : ∀ k : Int, k = 5 ∨ k = 6 → fitQ k 0 l = 8 → kindQ k l e = (q, p, 0) → GoodQ q ∧ p = 0 := fun k hk hf h => by
    obtain ⟨t0, l0, rfl, g0', hf⟩ := fit_pos hf
    obtain ⟨t1, l1, rfl, g1', hf⟩ := fit_pos hf
    obtain ⟨t2, l2, rfl, g2', hf⟩ := fit_pos hf
    obtain ⟨t3, l3, rfl, g3', hf⟩ := fit_pos hf
    obtain ⟨t4, l4, rfl, g4', hf⟩ := fit_pos hf
    obtain ⟨t5, l5, rfl, g5', hf⟩ := fit_pos hf
    obtain ⟨t6, l6, rfl, g6', hf⟩ := fit_pos hf
    obtain ⟨t7, l7, rfl, g7', hf⟩ := fit_pos hf
    rw [g1] at g1'
    rw [g3] at g3'
    rw [g5] at g5'
    rw [g7] at g7'
    have d4 : decide (k = 4) = false := by rw [decide_eq_false_iff_not]; omega
    have d5 : decide (5 ≤ k) = true := by rw [decide_eq_true_iff]; omega
    rw [d4, d5, Bool.false_and, Bool.false_or, Bool.true_and] at g5'
    rw [d5, Bool.true_and] at g7'
    have hfr : frontQ k = 8 := by rcases hk with rfl | rfl <;> rfl
    unfold kindQ at h
    rw [hfr, if_pos (by omega)] at h
    have hr := okRole (ho t1 (by simp)) (ho t3 (by simp)) (of_decide_eq_true g1') (of_decide_eq_true g3')
    have hr2 := okRole (ho t5 (by simp)) (ho t7 (by simp)) (of_decide_eq_true g5') (of_decide_eq_true g7')
    obtain ⟨e1, e2, e3, e4, e5, e6, e7, e8, e9⟩ := rest_good k _ _ e l7 [] q p (fun x hx => ho x (by simp [hx])) List.Pairwise.nil (fun x hx => by cases hx) (by simp) h
    exact ⟨⟨by omega, by omega, by rw [e3]; exact hr, e6, e5, e7, fun _ => by rw [e4]; exact hr2, fun h => by omega, fun h => e9 (by omega), fun h => by omega⟩, e1⟩
  unfold refQ at h
  by_cases f1' : fitQ 1 0 l = 5
  · rw [if_pos f1'] at h; exact five 1 (by simp) f1' h
  rw [if_neg f1'] at h
  by_cases f2' : fitQ 2 0 l = 5
  · rw [if_pos f2'] at h; exact five 2 (by simp) f2' h
  rw [if_neg f2'] at h
  by_cases f3' : fitQ 3 0 l = 5
  · rw [if_pos f3'] at h; exact five 3 (by simp) f3' h
  rw [if_neg f3'] at h
  by_cases f4' : fitQ 4 0 l = 6
  · rw [if_pos f4'] at h
    obtain ⟨t0, l0, rfl, g0', hf⟩ := fit_pos f4'
    obtain ⟨t1, l1, rfl, g1', hf⟩ := fit_pos hf
    obtain ⟨t2, l2, rfl, g2', hf⟩ := fit_pos hf
    obtain ⟨t3, l3, rfl, g3', hf⟩ := fit_pos hf
    obtain ⟨t4, l4, rfl, g4', hf⟩ := fit_pos hf
    obtain ⟨t5, l5, rfl, g5', hf⟩ := fit_pos hf
    rw [g1] at g1'
    rw [g3] at g3'
    unfold kindQ at h
    rw [f4, if_neg (by decide)] at h
    have hr := okRole (ho t1 (by simp)) (ho t3 (by simp)) (of_decide_eq_true g1') (of_decide_eq_true g3')
    obtain ⟨e1, e2, e3, e4, e5, e6, e7, e8, e9⟩ := rest_good 4 _ _ e l5 [] q p (fun x hx => ho x (by simp [hx])) List.Pairwise.nil (fun x hx => by cases hx) (by simp) h
    exact ⟨⟨by omega, by omega, by rw [e3]; exact hr, e6, e5, e7, fun h => by omega, fun _ => e4, fun _ => e9 (by omega), fun h => by omega⟩, e1⟩
  rw [if_neg f4'] at h
  by_cases f5' : fitQ 5 0 l = 8
  · rw [if_pos f5'] at h; exact eight 5 (by simp) f5' h
  rw [if_neg f5'] at h
  by_cases f6' : fitQ 6 0 l = 8
  · rw [if_pos f6'] at h; exact eight 6 (by simp) f6' h
  rw [if_neg f6'] at h
  unfold endQ at h
  split at h <;> simp only [Prod.mk.injEq] at h <;> exact absurd h.2.2 (by decide)
def parseQT (t : List Tok × Int × Int) (e : Int) : Qd × Int × Int := if t.2.2 ≠ 0 then (noQd, t.2.1, t.2.2) else readQ t.1 e
def parseQ (s : ByteArray) : Qd × Int × Int := parseQT (tokens (bl s)) (endOf s)
def textQ (q : Qd) : ByteArray := joinB (partsQ q) ⟨#[32]⟩
theorem parse_textQ (q : Qd) (h : GoodQ q) : parseQ (textQ q) = (q, 0, 0) := by
  obtain ⟨l, h1, h2⟩ := tokens_line q h
  unfold parseQ parseQT textQ
  rw [parts_line, h1, if_neg (fun h => h rfl)]
  exact read_line q h l _ h2
theorem parse_goodQ (s : ByteArray) (h : (parseQ s).2.2 = 0) : GoodQ (parseQ s).1 ∧ (parseQ s).2.1 = 0 := by
  unfold parseQ parseQT at h ⊢
  by_cases h0 : (tokens (bl s)).2.2 = 0
  · rw [if_neg (fun x => x h0)] at h ⊢
    exact read_good _ (endOf s) (tokens_ok _) _ _ (Prod.ext rfl (Prod.ext rfl h))
  · rw [if_pos h0] at h
    exact absurd h h0
theorem textQ_size (q : Qd) (h : GoodQ q) : (textQ q).size ≤ 200 := by
  have := lineQ_len q h
  rw [← bl_len]
  unfold textQ
  rw [parts_line]
  exact this
end Go.Proofs.YtnhkgfgbhedphaaGreatDoor
namespace Go.Proofs.YtnhkgfgbhedphaaGreatDoor
open Go.RowKit Go.Shelf

theorem rises_asc {us : List ByteArray} (h : rises us = true) : (∀ x ∈ us, isP 65 90 (bl x) = true) ∧ AscB us := by
  unfold rises at h
  rw [List.all_eq_true] at h
  have h' : ∀ i, i < us.length → risesAt us i = true := fun i hi => h i (List.mem_range.2 hi)
  refine ⟨fun x hx => ?_, ?_⟩
  · obtain ⟨i, hi, rfl⟩ := List.getElem_of_mem hx
    have := h' i hi
    unfold risesAt at this
    rw [Bool.and_eq_true, getD_at hi] at this
    exact this.1
  · have adj : ∀ i (hi : i + 1 < us.length), cmpS us[i] us[i + 1] < 0 := fun i hi => by
      have := h' (i + 1) hi
      unfold risesAt at this
      rw [Bool.and_eq_true, Bool.or_eq_true, getD_at hi] at this
      rcases this.2 with e | e
      · exact absurd (of_decide_eq_true e) (by omega)
      · rw [Nat.add_sub_cancel, getD_at (by omega), ← str_less, decide_eq_true_iff] at e
        exact e
    have far : ∀ d i (hi : i + d + 1 < us.length), cmpS us[i] us[i + d + 1] < 0 := by
      intro d
      induction d with
      | zero => exact fun i hi => adj i hi
      | succ d ih => exact fun i hi => lt_trans'B (ih i (by omega)) (adj (i + d + 1) hi)
    exact List.pairwise_iff_getElem.2 fun i j hi hj hij => by
      obtain ⟨d, rfl⟩ : ∃ d, j = i + d + 1 := ⟨j - i - 1, by omega⟩
      exact far d i hj
theorem rises_of {us : List ByteArray} (hp : ∀ x ∈ us, isP 65 90 (bl x) = true) (ha : AscB us) : rises us = true := by
  refine rises_yes (k := us.length) (by omega) (fun j hj => ?_)
  unfold risesAt
  rw [getD_at hj, hp _ (List.getElem_mem hj), Bool.true_and, Bool.or_eq_true]
  by_cases h0 : j = 0
  · exact .inl (decide_eq_true h0)
  · refine .inr ?_
    rw [getD_at (by omega), ← str_less, decide_eq_true_iff]
    exact List.pairwise_iff_getElem.1 ha (j - 1) j (by omega) hj (by omega)
theorem good_of {q : Qv} {us : List ByteArray} (h : rightQ q us = true) : GoodQ ⟨q.k, q.a, q.b, us⟩ := by
  unfold rightQ at h
  simp only [Bool.and_eq_true, decide_eq_true_iff] at h
  obtain ⟨h1, h6, ha, hr, h⟩ := h
  obtain ⟨hp, hasc⟩ := rises_asc hr
  by_cases h5 : 5 ≤ q.k
  · rw [if_pos h5] at h
    simp only [Bool.and_eq_true, decide_eq_true_iff] at h
    obtain ⟨hb, hl⟩ := h
    exact ⟨h1, h6, ha, hp, hasc, by show us.length ≤ 12; omega, fun _ => hb, fun h => absurd h5 h, fun _ => List.eq_nil_of_length_eq_zero hl, fun h => by dsimp only at h; omega⟩
  · rw [if_neg h5] at h
    simp only [Bool.and_eq_true, decide_eq_true_iff, eqRl] at h
    obtain ⟨hb, hl, h⟩ := h
    by_cases h4 : q.k = 4
    · rw [if_pos h4, decide_eq_true_iff] at h
      exact ⟨h1, h6, ha, hp, hasc, hl, fun h => absurd h h5, fun _ => hb, fun _ => List.eq_nil_of_length_eq_zero h, fun h => by dsimp only at h; omega⟩
    · rw [if_neg h4, Bool.or_eq_true, decide_eq_true_iff, decide_eq_true_iff] at h
      exact ⟨h1, h6, ha, hp, hasc, hl, fun h => absurd h h5, fun _ => hb, fun h => by dsimp only at h; omega, fun hk => by
        dsimp only at hk ⊢
        rcases h with h | h
        · omega
        · omega⟩
theorem right_of {q : Qv} {us : List ByteArray} (h : GoodQ ⟨q.k, q.a, q.b, us⟩) : rightQ q us = true := by
  obtain ⟨h1, h6, ha, hp, hasc, hfew, htwo, hone, hnone, hsome⟩ := h
  dsimp only at h1 h6 ha hp hasc hfew htwo hone hnone hsome
  unfold rightQ
  rw [decide_eq_true h1, decide_eq_true h6, ha, rises_of hp hasc]
  simp only [Bool.true_and]
  by_cases h5 : 5 ≤ q.k
  · rw [if_pos h5, htwo h5, hnone (by omega)]; rfl
  · rw [if_neg h5, decide_eq_true hfew]
    have hb : eqRl q.b noR = true := decide_eq_true (hone h5)
    rw [hb]
    simp only [Bool.true_and]
    by_cases h4 : q.k = 4
    · rw [if_pos h4, hnone (by omega)]; rfl
    · rw [if_neg h4, Bool.or_eq_true, decide_eq_true_iff, decide_eq_true_iff]
      by_cases h3 : q.k = 3
      · exact .inl h3
      · have := hsome (by omega)
        exact .inr (by omega)
theorem right_iff {q : Qv} {us : List ByteArray} : rightQ q us = true ↔ GoodQ ⟨q.k, q.a, q.b, us⟩ := ⟨good_of, right_of⟩
end Go.Proofs.YtnhkgfgbhedphaaGreatDoor
namespace Go.Proofs.YtnhkgfgbhedphaaGreatDoor
open Go.RowKit Go.Shelf

def linesP : List UInt8 → List (List UInt8 × Bool)
  | [] => []
  | c :: r => if c = 10 then ([], true) :: linesP r else match linesP r with
    | [] => [([c], false)]
    | x :: xs => (c :: x.1, x.2) :: xs
def fullL (p : List UInt8 × Bool) : List UInt8 := if p.2 = true then p.1 ++ [10] else p.1
theorem lines_cons {c : UInt8} (r : List UInt8) (h : c ≠ 10) : linesP (c :: r) = (match linesP r with | [] => [([c], false)] | x :: xs => (c :: x.1, x.2) :: xs) := if_neg h
theorem lines_nl (r : List UInt8) : linesP (10 :: r) = ([], true) :: linesP r := if_pos rfl
theorem lines_nil : ∀ {l : List UInt8}, linesP l = [] → l = []
  | [], _ => rfl
  | c :: r, h => by
    by_cases hc : c = 10
    · rw [hc, lines_nl] at h; exact absurd h (by simp)
    · rw [lines_cons r hc] at h
      cases hr : linesP r with
      | nil => rw [hr] at h; exact absurd h (by simp)
      | cons x xs => rw [hr] at h; exact absurd h (by simp)
theorem lines_full : ∀ l : List UInt8, (linesP l).flatMap fullL = l
  | [] => rfl
  | c :: r => by
    have ih := lines_full r
    by_cases hc : c = 10
    · rw [hc, lines_nl, List.flatMap_cons, ih]; rfl
    · rw [lines_cons r hc]
      cases hr : linesP r with
      | nil =>
        obtain rfl := lines_nil hr
        rfl
      | cons x xs =>
        rw [hr, List.flatMap_cons] at ih
        show fullL (c :: x.1, x.2) ++ xs.flatMap fullL = c :: r
        rw [← ih]
        unfold fullL
        cases x.2 <;> rfl
theorem lines_at : ∀ (l : List UInt8) (j : Nat), (∀ k, k < j → l[k]? ≠ some 10) → l[j]? = some 10 → linesP l = (l.take j, true) :: linesP (l.drop (j + 1))
  | [], j, _, h => by simp at h
  | c :: r, 0, _, h => by
    obtain rfl : c = 10 := by simpa using h
    rw [lines_nl]; rfl
  | c :: r, j + 1, h0, h => by
    have hc : c ≠ 10 := fun e => h0 0 (by omega) (by simp [e])
    have ih := lines_at r j (fun k hk => by have := h0 (k + 1) (by omega); simpa using this) (by simpa using h)
    rw [lines_cons r hc, ih]
    simp
theorem lines_end : ∀ (l : List UInt8), (∀ k : Nat, l[k]? ≠ some 10) → l ≠ [] → linesP l = [(l, false)]
  | [], _, h => absurd rfl h
  | c :: r, h, _ => by
    have hc : c ≠ 10 := fun e => h 0 (by simp [e])
    rw [lines_cons r hc]
    by_cases hr : r = []
    · subst hr; rfl
    · rw [lines_end r (fun k => by have := h (k + 1); simpa using this) hr]
theorem lines_len : ∀ l : List UInt8, (linesP l).length ≤ l.length
  | [] => Nat.le_refl _
  | c :: r => by
    have ih := lines_len r
    by_cases hc : c = 10
    · rw [hc, lines_nl]; simpa using ih
    · rw [lines_cons r hc]
      cases hr : linesP r with
      | nil => simp
      | cons x xs => rw [hr] at ih; simp only [List.length_cons] at ih ⊢; omega
theorem flat_size {α β : Type} (f : α → List β) : ∀ (l : List α), ∀ p ∈ l, (f p).length ≤ (l.flatMap f).length
  | [], p, hp => absurd hp (by simp)
  | x :: xs, p, hp => by
    rw [List.flatMap_cons, List.length_append]
    rcases List.mem_cons.1 hp with rfl | h
    · omega
    · have := flat_size f xs p h; omega
theorem lines_size (l : List UInt8) (p : List UInt8 × Bool) (hp : p ∈ linesP l) : (fullL p).length ≤ l.length := by
  have h := flat_size fullL (linesP l) p hp
  rwa [lines_full] at h
theorem full_len (p : List UInt8 × Bool) : p.1.length ≤ (fullL p).length := by unfold fullL; split <;> simp
def lineB (p : List UInt8 × Bool) : ByteArray := ⟨p.1.toArray⟩
def pieceB (p : List UInt8 × Bool) : ByteArray := ⟨(fullL p).toArray⟩
def linesB (s : ByteArray) : List ByteArray := (linesP (bl s)).map lineB
theorem lines_step {l : List UInt8} (h : Lib.indexByte l 10 = -1) (h0 : l ≠ []) : linesP l = [(l, false)] := lines_end l (Lib.indexByte_none h) h0
theorem lines_step1 {l : List UInt8} {o : Nat} (h : Lib.indexByte l 10 = o) : linesP l = (l.take o, true) :: linesP (l.drop (o + 1)) ∧ o < l.length ∧ l.take (o + 1) = l.take o ++ [10] := by
  obtain ⟨h1, h2⟩ := Lib.indexByte_some h
  obtain ⟨hlt, hv⟩ := List.getElem?_eq_some_iff.1 h1
  exact ⟨lines_at l o h2 h1, hlt, by rw [List.take_succ_eq_append_getElem hlt, hv]⟩
theorem lines_no : ∀ (l : List UInt8), ∀ p ∈ linesP l, (10 : UInt8) ∉ p.1 ∧ (p.2 = false → p.1 ≠ [])
  | [], p, hp => absurd hp (by simp [linesP])
  | c :: r, p, hp => by
    by_cases hc : c = 10
    · rw [hc, lines_nl] at hp
      rcases List.mem_cons.1 hp with rfl | h
      · exact ⟨by simp, fun h => by cases h⟩
      · exact lines_no r p h
    · rw [lines_cons r hc] at hp
      have ih := lines_no r
      cases hr : linesP r with
      | nil =>
        rw [hr] at hp
        obtain rfl := List.mem_singleton.1 hp
        exact ⟨by simpa using fun e => hc e.symm, fun _ => by simp⟩
      | cons x xs =>
        rw [hr] at hp ih
        rcases List.mem_cons.1 hp with rfl | h
        · have h1 := (ih x (by simp)).1
          exact ⟨fun h => by rcases List.mem_cons.1 h with e | e; exact hc e.symm; exact h1 e, fun _ => by simp⟩
        · exact ih p (by simp [h])
theorem lines_cut_of {l : List UInt8} {k : Nat} (h : k < (linesP l).length) : ((linesP l).getD k ([], false)).2 = true ∨ (((linesP l).getD k ([], false)).1 ≠ [] ∧ ((linesP l).getD k ([], false)).2 = false ∧ ∀ c, ((linesP l).getD k ([], false)).1.getLast? = some c → c ≠ 10) := by
  obtain ⟨h1, h2⟩ := lines_no l _ (List.getElem_mem h)
  rw [List.getD_eq_getElem?_getD, List.getElem?_eq_getElem h]
  show (linesP l)[k].2 = true ∨ _
  generalize (linesP l)[k] = p at *
  cases hp : p.2 with
  | true => exact .inl rfl
  | false =>
    refine .inr ⟨h2 hp, hp, fun c hc e => h1 ?_⟩
    subst e
    exact List.mem_of_getLast? hc
def joinN (l : List ByteArray) : List UInt8 := l.flatMap fun x => bl x ++ [10]
theorem linesB_size (s : ByteArray) : ∀ x ∈ linesB s, x.size ≤ s.size := fun x hx => by
  obtain ⟨p, hp, rfl⟩ := List.mem_map.1 hx
  have h1 := lines_size (bl s) p hp
  have h2 := full_len p
  rw [bl_len] at h1
  rw [← bl_len]
  show p.1.length ≤ s.size
  omega
theorem linesB_len (s : ByteArray) : (linesB s).length ≤ s.size := by
  unfold linesB
  rw [List.length_map, ← bl_len]
  exact lines_len _
end Go.Proofs.YtnhkgfgbhedphaaGreatDoor
namespace Go.Proofs.YtnhkgfgbhedphaaGreatDoor
open Go.RowKit Go.Shelf

set_option maxRecDepth 100000 in
set_option maxHeartbeats 2000000 in
theorem q_IndexFunc (va : Value) (l : List Qv) (w : World) (ha : SlA w 6 va l.length (l.flatMap Qv.cells)) (g : Nat) (cb : Array Value) (p : Qv → Bool)
    (eg : ∀ args w, (callFunc g args).run Tryz.prog w = .ok (.enter g args) w)
    (hp : ∀ x W, x ∈ l → Below w.heap.size w W → Calls Tryz.prog g (#[qv x] ++ cb) W fun e w' => e = .returned (.bool (p x)) ∧ Below W.heap.size W w') :
    Calls Tryz.prog 131 #[va, .func (.func g) #[] cb] w fun e w' => (∃ i : Int, e = .returned (.int .i64 i) ∧ l.any p = decide (0 ≤ i)) ∧ Below w.heap.size w w' := by
  have HP := Lib.hid hp
  have HA := Lib.hid ha
  have hmax := ha.max
  obtain ⟨ao, cap, hva⟩ := ha.form
  subst hva
  clear ha hp
  have HY := Lib.hid (fun k (hk : k < l.length) (h : p l[k] = true) => show l.any p = true from List.any_eq_true.2 ⟨l[k], List.getElem_mem hk, h⟩)
  have HN := Lib.hid (fun (h : ∀ j (hj : j < l.length), p l[j] = false) => show l.any p = false by
    rw [List.any_eq_false]
    intro x hx
    obtain ⟨j, hj, rfl⟩ := List.getElem_of_mem hx
    rw [h j hj]; exact Bool.false_ne_true)
  generalize l.any p = res at HY HN ⊢
  go_enter Tryz.func131, Tryz.ntmps131
  go_wp2
  go_loopw [8] (fun i wr => ∃ k : Nat, k ≤ l.length ∧ i = .int .i64 k ∧ Hid (Below w.heap.size w wr) ∧ Hid (∀ j (hj : j < l.length), j < k → p l[j] = false)) (fun i _ => l.length - (intOf i).toNat)
  case atStart => exact ⟨0, by omega, rfl, Lib.hid (Below.refl _ _), Lib.hid (fun _ _ h => absurd h (by omega))⟩
  case round =>
    obtain ⟨k, hk, rfl, HB, HJ⟩ := hrel
    by_cases hlt : k < l.length
    · obtain ⟨b1, o1, c1, he1, hc1, hm1, hb1, hx1⟩ := HA.out.pos (by omega)
      simp only [Value.slice.injEq, true_and] at he1
      obtain ⟨rfl, rfl⟩ := he1
      obtain ⟨p0, p1, p2, p3, p4, p5⟩ := q_cell (w := wr) (fun j u hu => (HB.out.cell (p := ⟨b1, o1 + j, none⟩) hb1).trans (hx1 j u hu)) k hlt
      have hbr : b1 < wr.heap.size := Nat.lt_of_lt_of_le hb1 HB.out.size
      have PC := Lib.hid (fun W h => HP.out l[k] W (List.getElem_mem hlt) h)
      have YES := Lib.hid (HY.out k hlt)
      have HJ2 : Hid (p l[k] = false → ∀ j (hj : j < l.length), j < k + 1 → p l[j] = false) := Lib.hid (fun hpk j hj hjk => by
        by_cases h : j < k
        · exact HJ.out j hj h
        · obtain rfl : j = k := by omega
          exact hpk)
      clear hx1
      generalize p l[k] = px at PC YES HJ2
      generalize l[k] = x at *
      obtain ⟨xk, ⟨x1, x2⟩, ⟨x3, x4⟩, xw⟩ := x
      go_wp2_with fail
      refine (PC.out _ HB.out).mono ?_
      rintro e w2 ⟨rfl, hb2⟩
      have HB2 := Lib.hid (HB.out.trans (hb2.mono HB.out.size))
      clear hb2
      cases px with
      | true =>
        have R := Lib.hid (YES.out rfl)
        go_wp2
        go_ret
        exact ⟨⟨(k : Int), rfl, by rw [R.out, decide_eq_true (Int.natCast_nonneg k)]⟩, HB2.out⟩
      | false =>
        have HJ3 := Lib.hid (HJ2.out rfl)
        go_wp2
        exact ⟨⟨k + 1, by omega, by go_num, HB2, HJ3⟩, by simp [intOf]; omega⟩
    · have R := Lib.hid (HN.out (fun j hj => HJ.out j hj (by omega)))
      go_wp2
      go_ret
      exact ⟨⟨-1, rfl, by rw [R.out]; rfl⟩, HB.out⟩
set_option maxHeartbeats 1000000 in
theorem q_ContainsFunc (va : Value) (l : List Qv) (w : World) (ha : SlA w 6 va l.length (l.flatMap Qv.cells)) (g : Nat) (cb : Array Value) (p : Qv → Bool)
    (eg : ∀ args w, (callFunc g args).run Tryz.prog w = .ok (.enter g args) w)
    (hp : ∀ x W, x ∈ l → Below w.heap.size w W → Calls Tryz.prog g (#[qv x] ++ cb) W fun e w' => e = .returned (.bool (p x)) ∧ Below W.heap.size W w') :
    Calls Tryz.prog 80 #[va, .func (.func g) #[] cb] w fun e w' => e = .returned (.bool (l.any p)) ∧ Below w.heap.size w w' := by
  have I := Lib.hid (q_IndexFunc va l w ha g cb p eg hp)
  generalize l.any p = res at I ⊢
  clear ha hp eg
  go_enter Tryz.func80, Tryz.ntmps80
  go_wp2_with fail
  refine I.out.mono ?_
  rintro e w1 ⟨⟨i, rfl, hi⟩, hb⟩
  have HI := Lib.hid hi
  have HB := Lib.hid hb
  clear hi hb
  go_wp2
  go_ret
  exact ⟨ret_b HI.out.symm, HB.out⟩
end Go.Proofs.YtnhkgfgbhedphaaGreatDoor
namespace Go.Proofs.YtnhkgfgbhedphaaGreatDoor
open Go.RowKit Go.Shelf

theorem own_base {w : World} {base base' size n : Nat} {e : TypeId} {v : Value} {xs : List Value} (h : w.ownsRow base e size v n xs) (hb : base' ≤ base) : w.ownsRow base' e size v n xs := by
  obtain ⟨h1, h2⟩ := h
  refine ⟨h1, ?_⟩
  rcases h2 with h2 | ⟨g, cap, cur, rfl, h3, h4⟩
  · exact .inl h2
  · exact .inr ⟨g, cap, cur, rfl, Nat.le_trans hb h3, h4⟩
theorem str_CloneO (v : Value) (l : List ByteArray) (w : World) (h : SlA w 1 v l.length (strs l)) (hl : l.length ≤ 100000) :
    Calls Tryz.prog 88 #[v] w fun e w' => ∃ v', e = .returned v' ∧ w'.ownsRow w.heap.size 9 1 v' l.length (strs l) ∧ Below w.heap.size w w' := by
  by_cases h0 : 0 < l.length
  · obtain ⟨b1, o1, c1, rfl, hc1, hm1, hb1, hx1⟩ := h.pos h0
    refine (Tryz.slices_Clone_string b1 o1 l.length c1 l w (Nat.le_refl _) (by omega) (fun j hj => by
      rw [hx1 j _ (strs_get hj), List.getD_eq_getElem?_getD, List.getElem?_eq_getElem hj]; rfl)).mono ?_
    rintro e w' ⟨v', he, hown, _, hb⟩
    rw [List.take_of_length_le (Nat.le_refl _)] at hown
    exact ⟨v', he, hown, hb⟩
  · obtain rfl : l = [] := List.eq_nil_of_length_eq_zero (by omega)
    obtain ⟨ao, ac, rfl⟩ := h.form
    cases ao with
    | none =>
      refine (Tryz.slices_Clone_string_nil _ ac w).mono ?_
      rintro e w' ⟨he, rfl⟩
      exact ⟨_, he, World.ownsRow_nil _ _ _ _, Below.refl _ _⟩
    | some a =>
      refine (Tryz.slices_Clone_string_zero a ac w).mono ?_
      rintro e w' ⟨v', he, hown, _, hb⟩
      exact ⟨v', he, hown, hb⟩
theorem rl_GrowO (n : Nat) (w : World) (hn : n ≤ 2000) : Calls Tryz.prog 195 #[.slice none 0 0, .int .i64 n] w fun e w' =>
    ∃ a cap, e = .returned (.slice a 0 cap) ∧ w'.ownsRow w.heap.size 54 2 (.slice a 0 cap) 0 [] ∧ Below w.heap.size w w' := by
  by_cases h0 : 0 < n
  · obtain ⟨inf, hinf, hz0, hz1, hz2⟩ := info_parts rl_info'
    refine (Any8.slices_Grow_grow Tryz.growR inf _ hinf hz0 (by omega) none 0 0 n [] w (Nat.le_refl _) (by omega) (by rw [hz2]; omega) (by omega) (by simp) (fun _ => rfl) (fun a h => by cases h)).mono ?_
    rintro e w' ⟨rfl, rfl⟩
    have hge := grownCap_ge w (0 + n) 0 54
    have hle := grownCap_le_maxLen w (0 + n) 0 54 (by simp only [maxLen]; omega)
    refine ⟨_, _, rfl, World.ownsRow_made w.drew _ _ (Nat.le_refl _) hle ?_, (below_drew (Below.refl _ _)).alloc (Nat.le_refl _) _⟩
    rw [Nat.zero_add] at hge hle ⊢
    simp [Builtin.zeroCells, Value.cells]
    rw [show Tryz.growR_ren.t 25 = 54 from rfl]
    omega
  · obtain rfl : n = 0 := by omega
    refine (Any8.slices_Grow_room Tryz.growR none 0 0 0 w (Nat.le_refl _) (by omega) (by omega) (by omega)).mono ?_
    rintro e w' ⟨rfl, rfl⟩
    exact ⟨_, _, rfl, World.ownsRow_nil _ _ _ _, Below.refl _ _⟩
set_option maxRecDepth 100000 in
set_option maxHeartbeats 4000000 in
theorem rl_ConcatO (g : Nat) (va vb : Value) (l m : List Rl) (w : World) (hg : Blk w g #[va, vb]) (ha : SlA w 2 va l.length (l.flatMap Rl.cells)) (hb : SlA w 2 vb m.length (m.flatMap Rl.cells)) (hl : l.length ≤ 1000) (hm : m.length ≤ 1000) :
    Calls Tryz.prog 139 #[.slice (some ⟨g, 0, none⟩) 2 2] w fun e w' => ∃ v, e = .returned v ∧ w'.ownsRow w.heap.size 54 2 v (l ++ m).length ((l ++ m).flatMap Rl.cells) ∧ Below w.heap.size w w' := by
  have HA := Lib.hid ha
  have HB := Lib.hid hb
  have HG := Lib.hid hg
  obtain ⟨ao, ac, hva⟩ := ha.form
  obtain ⟨bo, bc, hvb⟩ := hb.form
  subst hva hvb
  have GR : Hid (∀ W, Calls Tryz.prog 195 #[.slice none 0 0, .int .i64 ((l.length : Int) + (m.length : Int))] W fun e w' =>
      ∃ a cap, e = .returned (.slice a 0 cap) ∧ w'.ownsRow W.heap.size 54 2 (.slice a 0 cap) 0 [] ∧ Below W.heap.size W w') := Lib.hid (fun W => by
    have h := rl_GrowO (l.length + m.length) W (by omega)
    rw [Int.natCast_add] at h
    exact h)
  have c0 : w.cell? ⟨g, 0, none⟩ = some (.slice ao l.length ac) := (hg.1 0).trans rfl
  have c1 : w.cell? ⟨g, 1, none⟩ = some (.slice bo m.length bc) := (hg.1 1).trans rfl
  have hgw : g < w.heap.size := hg.2.2
  clear ha hb hg
  go_enter Tryz.func139, Tryz.ntmps139
  go_wp2
  go_loop [3, 11] (fun n i => (n = .int .i64 0 ∧ i = .int .i64 0) ∨ (n = .int .i64 l.length ∧ i = .int .i64 1) ∨ (n = .int .i64 ((l.length : Int) + (m.length : Int)) ∧ i = .int .i64 2)) (fun _ i => 2 - (intOf i).toNat)
  case atStart => exact .inl ⟨rfl, rfl⟩
  case round =>
    obtain ⟨rfl, rfl⟩ | ⟨rfl, rfl⟩ | ⟨rfl, rfl⟩ := hrel
    · have d : decide ((l.length : Int) < 0) = false := by (rw [decide_eq_false_iff_not]; omega)
      have hw : IntKind.i64.wrap ((0 : Int) + (l.length : Int)) = (l.length : Int) := by rw [Int.zero_add]; exact Go.IntWalk.i64_in _ (by omega)
      go_wp2
      exact ⟨.inr (.inl ⟨rfl, rfl⟩), by simp [intOf]⟩
    · have d : decide ((l.length : Int) + (m.length : Int) < 0) = false := by (rw [decide_eq_false_iff_not]; omega)
      have hw : IntKind.i64.wrap ((l.length : Int) + (m.length : Int)) = (l.length : Int) + (m.length : Int) := Go.IntWalk.i64_in _ (by omega)
      go_wp2
      exact ⟨.inr (.inr ⟨rfl, rfl⟩), by simp [intOf]⟩
    · go_wp2_with fail
      refine (GR.out _).mono ?_
      rintro e w1 ⟨a1, cap1, rfl, hown, hb1⟩
      have HO := Lib.hid hown
      have HB1 := Lib.hid hb1
      clear hown hb1 c0 c1 hgw
      go_wp2_with fail
      go_loopw [6, 27] (fun vo i wr => Hid (Below w.heap.size w wr) ∧ ((i = .int .i64 0 ∧ Hid (wr.ownsRow w.heap.size 54 2 vo 0 [])) ∨ (i = .int .i64 1 ∧ Hid (wr.ownsRow w.heap.size 54 2 vo l.length (l.flatMap Rl.cells))) ∨ (i = .int .i64 2 ∧ Hid (wr.ownsRow w.heap.size 54 2 vo (l.length + m.length) ((l ++ m).flatMap Rl.cells))))) (fun _ i _ => 2 - (intOf i).toNat)
      case atStart => exact ⟨HB1, .inl ⟨rfl, HO⟩⟩
      case round =>
        obtain ⟨HBR, ⟨rfl, HOR⟩ | ⟨rfl, HOR⟩ | ⟨rfl, HOR⟩⟩ := hrel
        · have hbk := HG.out.below HBR.out
          have c0 : wr.cell? ⟨g, 0, none⟩ = some (.slice ao l.length ac) := (hbk.1 0).trans rfl
          have hgw : g < wr.heap.size := hbk.2.2
          obtain ⟨xo, xc, rfl⟩ := own_form HOR.out
          clear hbk
          go_wp2_with (at_builtin; refine halt_ ?_)
          unfold Halt_
          refine app_row Tryz.underlying23 rl_info' rfl (by decide) (by decide) rfl _ _ rfl w.heap.size rfl HOR.out rfl (HA.out.below HBR.out) (rls_one _) (by omega) HBR.out.size ?_
          intro a' cap' w3 hown' hgrow
          have HO3 := Lib.hid (show w3.ownsRow w.heap.size 54 2 (.slice a' l.length cap') l.length (l.flatMap Rl.cells) by simpa using hown')
          have HB3 := Lib.hid (below_own HBR.out HOR.out hgrow HBR.out.size (Nat.le_refl _))
          clear hown' hgrow
          go_wp2_with fail
          exact ⟨⟨HB3, .inr (.inl ⟨rfl, HO3⟩)⟩, by simp [intOf]⟩
        · have hbk := HG.out.below HBR.out
          have c1 : wr.cell? ⟨g, 1, none⟩ = some (.slice bo m.length bc) := (hbk.1 1).trans rfl
          have hgw : g < wr.heap.size := hbk.2.2
          obtain ⟨xo, xc, rfl⟩ := own_form HOR.out
          clear hbk
          go_wp2_with (at_builtin; refine halt_ ?_)
          unfold Halt_
          refine app_row Tryz.underlying23 rl_info' rfl (by decide) (by decide) rfl _ _ rfl w.heap.size rfl HOR.out rfl (HB.out.below HBR.out) (rls_one _) (by omega) HBR.out.size ?_
          intro a' cap' w3 hown' hgrow
          have HO3 := Lib.hid (show w3.ownsRow w.heap.size 54 2 (.slice a' (l.length + m.length) cap') (l.length + m.length) ((l ++ m).flatMap Rl.cells) by rw [rl_flat]; exact hown')
          have HB3 := Lib.hid (below_own HBR.out HOR.out hgrow HBR.out.size (Nat.le_refl _))
          clear hown' hgrow
          go_wp2_with fail
          exact ⟨⟨HB3, .inr (.inr ⟨rfl, HO3⟩)⟩, by simp [intOf]⟩
        · obtain ⟨xo, xc, rfl⟩ := own_form HOR.out
          go_wp2_with fail
          go_ret
          exact ⟨_, rfl, by rw [List.length_append]; exact HOR.out, HBR.out⟩
end Go.Proofs.YtnhkgfgbhedphaaGreatDoor
namespace Go.Proofs.YtnhkgfgbhedphaaGreatDoor
open Go.RowKit Go.Shelf

theorem query_second (k : Int) (w : World) : Calls Tryz.prog 123 #[.int .i64 k] w fun e w' => e = .returned (.bool (decide (k = 5 ∨ k = 6))) ∧ w' = w := by
  by_cases h5 : k = 5
  · subst h5
    go_enter Tryz.func123, Tryz.ntmps123
    go_wp2
    go_ret
    exact ⟨rfl, rfl⟩
  · by_cases h6 : k = 6
    · subst h6
      go_enter Tryz.func123, Tryz.ntmps123
      go_wp2
      go_ret
      exact ⟨rfl, rfl⟩
    · have hd := Lib.hid (show decide (k = 5 ∨ k = 6) = false from decide_eq_false (fun h => h.elim h5 h6))
      have d5 : (k == 5) = false := by rw [beq_eq_false_iff_ne]; exact h5
      have d6 : (k == 6) = false := by rw [beq_eq_false_iff_ne]; exact h6
      go_enter Tryz.func123, Tryz.ntmps123
      go_wp2
      go_ret
      exact ⟨by rw [hd.out]; rfl, rfl⟩
theorem query_Roles (q : Qv) (w : World) :
    Calls Tryz.prog 141 #[qv q] w fun e w' => ∃ v, e = .returned v ∧ Sl w' 2 v (rolesQ q).length ((rolesQ q).flatMap Rl.cells) ∧ Below w.heap.size w w' := by
  have SE := Lib.hid (fun W => query_second q.k W)
  have RY := Lib.hid (fun (h : q.k = 5 ∨ q.k = 6) => show rolesQ q = [q.a, q.b] from if_pos h)
  have RN := Lib.hid (fun (h : ¬ (q.k = 5 ∨ q.k = 6)) => show rolesQ q = [q.a] from if_neg h)
  obtain ⟨k, ⟨a1, a2⟩, ⟨b1, b2⟩, v⟩ := q
  by_cases hk : k = 5 ∨ k = 6
  · have hd : decide (k = 5 ∨ k = 6) = true := decide_eq_true hk
    rw [hd] at SE
    rw [RY.out hk]
    clear RY RN hk hd
    go_enter Tryz.func141, Tryz.ntmps141
    go_wp2_with fail
    refine (SE.out _).mono ?_
    rintro e w1 ⟨rfl, rfl⟩
    go_wp2
    go_ret
    exact ⟨.slice (some ⟨w.heap.size + 1, 0, none⟩) 2 2, rfl, Sl.new _ [.string a1, .string a2, .string b1, .string b2] _ 2 2 (w.heap.size + 1) (by simp) rfl (by simp [maxLen]), ((Below.refl _ _).alloc (Nat.le_refl _) _).alloc (by simp) _⟩
  · have hd : decide (k = 5 ∨ k = 6) = false := decide_eq_false hk
    rw [hd] at SE
    rw [RN.out hk]
    clear RY RN hk hd
    go_enter Tryz.func141, Tryz.ntmps141
    go_wp2_with fail
    refine (SE.out _).mono ?_
    rintro e w1 ⟨rfl, rfl⟩
    go_wp2
    go_ret
    exact ⟨.slice (some ⟨w.heap.size + 1, 0, none⟩) 1 1, rfl, Sl.new _ [.string a1, .string a2] _ 2 1 (w.heap.size + 1) (by simp) rfl (by simp [maxLen]), ((Below.refl _ _).alloc (Nat.le_refl _) _).alloc (by simp) _⟩

def polRoles (l : List St) (g h : List Rl) (qs : List Qv) : List Rl := g ++ h ++ l.flatMap rolesS ++ qs.flatMap rolesQ
theorem rolesS_len (s : St) : (rolesS s).length ≤ 3 := by
  unfold rolesS
  split
  · simp
  · split <;> simp
theorem rolesQ_len (q : Qv) : (rolesQ q).length ≤ 2 := by
  unfold rolesQ
  split <;> simp
theorem push_roles {w wr w3 : World} {A : Array Value} {vo : Value} {n m : Nat} {rs ms : List Rl} {a' : Option Addr} {cap' : Nat} (ht : OneAt w A wr) (hown : wr.ownsRow (w.heap.size + 1) 54 2 vo n (rs.flatMap Rl.cells))
    (h : w3.ownsRow (w.heap.size + 1) 54 2 (.slice a' (n + m) cap') (n + m) (rs.flatMap Rl.cells ++ ms.flatMap Rl.cells)) (hg : wr.grownBy w3 vo.ownBlock) :
    w3.ownsRow (w.heap.size + 1) 54 2 (.slice a' (n + m) cap') (n + m) ((rs ++ ms).flatMap Rl.cells) ∧ OneAt w A w3 := by
  refine ⟨by rw [rl_flat]; exact h, ht.a.grown hg (own_gt_ne hown (Nat.lt_succ_self _)), ?_⟩
  exact below_own ht.low hown hg (by have := ht.low.size; omega) (Nat.le_succ _)
set_option maxRecDepth 100000 in
set_option maxHeartbeats 8000000 in
theorem policy_roles (v0 v1 v2 v3 : Value) (l : List St) (g h : List Rl) (qs : List Qv) (w : World) (hp : PolAt w v0 v1 v2 v3 l g h qs) (hl : l.length ≤ 100) (hg : g.length ≤ 100) (hh : h.length ≤ 100) (hq : qs.length ≤ 100) :
    Calls Tryz.prog 90 #[pv v0 v1 v2 v3] w fun e w' => ∃ v, e = .returned v ∧ SlA w' 2 v (polRoles l g h qs).length ((polRoles l g h qs).flatMap Rl.cells) ∧ (polRoles l g h qs).length ≤ 1000 ∧ Below w.heap.size w w' := by
  have HP := Lib.hid hp
  have CO := Lib.hid (fun b W (hb : Below w.heap.size w W) (hx : Blk W b #[v1, v2]) => rl_ConcatO b v1 v2 g h W hx (hp.rg.below hb) (hp.rh.below hb) (by omega) (by omega))
  obtain ⟨a0, c0, rfl⟩ := hp.rs.form
  obtain ⟨a1, c1, rfl⟩ := hp.rg.form
  obtain ⟨a2, c2, rfl⟩ := hp.rh.form
  obtain ⟨a3, c3, rfl⟩ := hp.rq.form
  have HT := Lib.hid (show OneAt w #[.slice a0 l.length c0, .slice a1 g.length c1, .slice a2 h.length c2, .slice a3 qs.length c3] (w.alloc (.cells #[.slice a0 l.length c0, .slice a1 g.length c1, .slice a2 h.length c2, .slice a3 qs.length c3] 26)) from ⟨Blk.new w _ _, (Below.refl _ _).alloc (Nat.le_refl _) _⟩)
  clear hp
  go_enter Tryz.func90, Tryz.ntmps90
  go_wp2_with fail
  refine (CO.out (w.heap.size + 1) _ (((Below.refl _ _).alloc (Nat.le_refl _) _).alloc (by simp) _) (by have := Blk.new (w.alloc (.cells #[.slice a0 l.length c0, .slice a1 g.length c1, .slice a2 h.length c2, .slice a3 qs.length c3] 26)) #[.slice a1 g.length c1, .slice a2 h.length c2] 23; simpa using this)).mono ?_
  rintro e w1 ⟨vo, rfl, hown, hb⟩
  obtain ⟨r0, hr0⟩ : ∃ r, r = g ++ h := ⟨_, rfl⟩
  rw [← hr0] at hown
  have HT := Lib.hid ((HT.out.alloc _).later hb)
  have HO := Lib.hid (own_base (base' := w.heap.size + 1) hown (by simp))
  obtain ⟨oo, oc, rfl⟩ := own_form hown
  clear hown hb CO
  have hn0 : r0.length ≤ 200 + 3 * 0 := by rw [hr0, List.length_append]; omega
  have HE0 := Lib.hid hr0
  clear hr0
  obtain ⟨ca, fa, za⟩ := HT.out.a
  go_wp2_with fail
  clear ca fa za
  go_loopw [3, 17] (fun vo i wr => ∃ (k : Nat) (rs : List Rl), k ≤ l.length ∧ i = .int .i64 k ∧ Hid (rs.length ≤ 200 + 3 * k) ∧ Hid (OneAt w #[.slice a0 l.length c0, .slice a1 g.length c1, .slice a2 h.length c2, .slice a3 qs.length c3] wr) ∧ Hid (wr.ownsRow (w.heap.size + 1) 54 2 vo rs.length (rs.flatMap Rl.cells)) ∧ Hid (rs = g ++ h ++ (l.take k).flatMap rolesS)) (fun _ i _ => l.length - (intOf i).toNat)
  case atStart => exact ⟨0, _, by omega, rfl, Lib.hid hn0, HT, HO, Lib.hid (by rw [HE0.out]; simp)⟩
  case round =>
    clear HT HO hn0 HE0
    obtain ⟨k, rs, hk, rfl, HC, HT, HO, HE⟩ := hrel
    obtain ⟨oo, oc, rfl⟩ := own_form HO.out
    have hrs := HC.out
    by_cases hlt : k < l.length
    · obtain ⟨b1, o1, e1, he1, hc1, hm1', hb1, hx1⟩ := HP.out.rs.pos (by omega)
      simp only [Value.slice.injEq, true_and] at he1
      obtain ⟨rfl, rfl⟩ := he1
      obtain ⟨p0, p1, p2, p3, p4, p5, p6, p7, p8⟩ := st_cell (w := wr) (fun j u hu => (HT.out.low.cell (p := ⟨b1, o1 + j, none⟩) hb1).trans (hx1 j u hu)) k hlt
      have hbr : b1 < wr.heap.size := Nat.lt_of_lt_of_le hb1 HT.out.low.size
      have HF := Lib.hid (flat_snocF rolesS hlt)
      have SR := Lib.hid (fun W => syn_Roles l[k] W)
      have hms := rolesS_len l[k]
      clear hx1
      generalize l[k] = x at *
      obtain ⟨xk, ⟨x1, x2⟩, xw, ⟨x3, x4⟩, ⟨x5, x6⟩, xv⟩ := x
      generalize rolesS ⟨xk, ⟨x1, x2⟩, xw, ⟨x3, x4⟩, ⟨x5, x6⟩, xv⟩ = ms at SR HF hms
      go_wp2_with fail
      refine (SR.out _).mono ?_
      rintro e w3 ⟨vz, rfl, hz, hb⟩
      have HT3 := Lib.hid ((HT.out.alloc _).later hb)
      have HO3 := Lib.hid (own_below (HO.out.alloc _) hb)
      obtain ⟨zo, zc, rfl⟩ := hz.form
      have HZ := Lib.hid hz
      clear hz hb SR
      go_wp2_with (at_builtin; refine halt_ ?_)
      unfold Halt_
      refine app_row Tryz.underlying23 rl_info' rfl (by decide) (by decide) rfl _ _ rfl (w.heap.size + 1) rfl HO3.out rfl HZ.out.a (rls_one _) (by omega) (by have := HT3.out.a.2.2; omega) ?_
      intro a' cap' w4 hown' hgrow
      obtain ⟨q1, q2⟩ := push_roles HT3.out HO3.out hown' hgrow
      have HO4 := Lib.hid (show w4.ownsRow (w.heap.size + 1) 54 2 (.slice a' (rs.length + ms.length) cap') (rs ++ ms).length ((rs ++ ms).flatMap Rl.cells) by rw [List.length_append]; exact q1)
      have HT4 := Lib.hid q2
      clear hown' hgrow q1 q2 HO3 HT3 HZ
      go_wp2_with fail
      exact ⟨⟨k + 1, rs ++ ms, by omega, by go_num, Lib.hid (by rw [List.length_append]; omega), HT4, HO4, Lib.hid (by rw [HF.out, HE.out]; simp only [List.append_assoc])⟩, by simp [intOf]; omega⟩
    · obtain ⟨ca, fa, za⟩ := HT.out.a
      have hn0 : rs.length ≤ 500 + 2 * 0 := by omega
      have HE0 := Lib.hid (show rs = g ++ h ++ l.flatMap rolesS by rw [HE.out, List.take_of_length_le (show l.length ≤ k by omega)])
      clear hrs HC hk HE
      go_wp2_with fail
      clear ca fa za
      go_loopw [3, 29] (fun vo i wr => ∃ (k : Nat) (rs : List Rl), k ≤ qs.length ∧ i = .int .i64 k ∧ Hid (rs.length ≤ 500 + 2 * k) ∧ Hid (OneAt w #[.slice a0 l.length c0, .slice a1 g.length c1, .slice a2 h.length c2, .slice a3 qs.length c3] wr) ∧ Hid (wr.ownsRow (w.heap.size + 1) 54 2 vo rs.length (rs.flatMap Rl.cells)) ∧ Hid (rs = g ++ h ++ l.flatMap rolesS ++ (qs.take k).flatMap rolesQ)) (fun _ i _ => qs.length - (intOf i).toNat)
      case atStart => exact ⟨0, _, by omega, rfl, Lib.hid hn0, HT, HO, Lib.hid (by rw [HE0.out]; simp)⟩
      case round =>
        clear HT HO hn0 HE0
        obtain ⟨k, rs, hk, rfl, HC, HT, HO, HE⟩ := hrel
        obtain ⟨oo, oc, rfl⟩ := own_form HO.out
        have hrs := HC.out
        by_cases hlt : k < qs.length
        · obtain ⟨b1, o1, e1, he1, hc1, hm1', hb1, hx1⟩ := HP.out.rq.pos (by omega)
          simp only [Value.slice.injEq, true_and] at he1
          obtain ⟨rfl, rfl⟩ := he1
          obtain ⟨p0, p1, p2, p3, p4, p5⟩ := q_cell (w := wr) (fun j u hu => (HT.out.low.cell (p := ⟨b1, o1 + j, none⟩) hb1).trans (hx1 j u hu)) k hlt
          have hbr : b1 < wr.heap.size := Nat.lt_of_lt_of_le hb1 HT.out.low.size
          have HF := Lib.hid (flat_snocF rolesQ hlt)
          have SR := Lib.hid (fun W => query_Roles qs[k] W)
          have hms := rolesQ_len qs[k]
          have hqo := HP.out.lq _ (List.getElem_mem hlt)
          obtain ⟨wo, wc, hw5⟩ : ∃ a c, qs[k].w = .slice a ((hqo.2.2).choose).length c := ((hqo.2.2).choose_spec.1).form
          generalize (hqo.2.2).choose.length = nw at hw5
          clear hx1 hqo
          generalize qs[k] = x at *
          obtain ⟨xk, ⟨x1, x2⟩, ⟨x3, x4⟩, xw⟩ := x
          dsimp only at hw5
          subst hw5
          generalize rolesQ ⟨xk, ⟨x1, x2⟩, ⟨x3, x4⟩, .slice wo nw wc⟩ = ms at SR HF hms
          go_wp2_with fail
          refine (SR.out _).mono ?_
          rintro e w3 ⟨vz, rfl, hz, hb⟩
          have HT3 := Lib.hid ((HT.out.alloc _).later hb)
          have HO3 := Lib.hid (own_below (HO.out.alloc _) hb)
          obtain ⟨zo, zc, rfl⟩ := hz.form
          have HZ := Lib.hid hz
          clear hz hb SR
          go_wp2_with (at_builtin; refine halt_ ?_)
          unfold Halt_
          refine app_row Tryz.underlying23 rl_info' rfl (by decide) (by decide) rfl _ _ rfl (w.heap.size + 1) rfl HO3.out rfl HZ.out.a (rls_one _) (by omega) (by have := HT3.out.a.2.2; omega) ?_
          intro a' cap' w4 hown' hgrow
          obtain ⟨q1, q2⟩ := push_roles HT3.out HO3.out hown' hgrow
          have HO4 := Lib.hid (show w4.ownsRow (w.heap.size + 1) 54 2 (.slice a' (rs.length + ms.length) cap') (rs ++ ms).length ((rs ++ ms).flatMap Rl.cells) by rw [List.length_append]; exact q1)
          have HT4 := Lib.hid q2
          clear hown' hgrow q1 q2 HO3 HT3 HZ
          go_wp2_with fail
          exact ⟨⟨k + 1, rs ++ ms, by omega, by go_num, Lib.hid (by rw [List.length_append]; omega), HT4, HO4, Lib.hid (by rw [HF.out, HE.out]; simp only [List.append_assoc])⟩, by simp [intOf]; omega⟩
        · have HA := Lib.hid (show rs = polRoles l g h qs by rw [HE.out, List.take_of_length_le (show qs.length ≤ k by omega)]; rfl)
          have HSL := Lib.hid (Sl.of_own HO.out).a
          go_wp2
          go_ret
          exact ⟨_, rfl, by rw [← HA.out]; exact HSL.out, by rw [← HA.out]; omega, HT.out.low⟩
end Go.Proofs.YtnhkgfgbhedphaaGreatDoor
namespace Go.Proofs.YtnhkgfgbhedphaaGreatDoor
open Go.RowKit Go.Shelf

theorem tab_All (b : Nat) (l : List ByteArray) (w : World) (h : TabAt w b l) (hl : l.length ≤ 100000) :
    Calls Tryz.prog 93 #[.pointer (some ⟨b, 0, none⟩)] w fun e w' => ∃ v, e = .returned v ∧ w'.ownsRow w.heap.size 9 1 v l.length (strs l) ∧ Below w.heap.size w w' := by
  obtain ⟨v, h1, h2, h3⟩ := h
  have CL := Lib.hid (str_CloneO v l w h2.a hl)
  obtain ⟨a, c, rfl⟩ := h2.form
  clear h2
  go_enter Tryz.func93, Tryz.ntmps93
  go_wp2_with fail
  refine CL.out.mono ?_
  rintro e w1 ⟨v1, rfl, ho, hb⟩
  have HO := Lib.hid ho
  have HB := Lib.hid hb
  clear ho hb CL h1 h3
  go_wp2
  go_ret
  exact ⟨_, rfl, HO.out, HB.out⟩
theorem query_Prins (q : Qv) (us : List ByteArray) (w : World) (h : SlA w 1 q.w us.length (strs us)) (hl : us.length ≤ 100000) :
    Calls Tryz.prog 91 #[qv q] w fun e w' => ∃ v, e = .returned v ∧ SlA w' 1 v us.length (strs us) ∧ Below w.heap.size w w' := by
  have CL := Lib.hid (fun W (hb : Below w.heap.size w W) => str_CloneO q.w us W (h.below hb) hl)
  obtain ⟨a, c, hw⟩ := h.form
  obtain ⟨xk, ⟨x1, x2⟩, ⟨x3, x4⟩, xw⟩ := q
  dsimp only at hw CL
  subst hw
  have HB0 := Lib.hid (show Below w.heap.size w (w.alloc (.cells #[.int .i64 xk, .string x1, .string x2, .string x3, .string x4, .slice a us.length c] 66)) from (Below.refl _ _).alloc (Nat.le_refl _) _)
  clear h
  go_enter Tryz.func91, Tryz.ntmps91
  go_wp2_with fail
  refine (CL.out _ HB0.out).mono ?_
  rintro e w1 ⟨v1, rfl, ho, hb⟩
  have HO := Lib.hid (Sl.of_own ho).a
  have HB := Lib.hid (HB0.out.trans (hb.mono HB0.out.size))
  clear ho hb CL
  go_wp2
  go_ret
  exact ⟨_, rfl, HO.out, HB.out⟩
theorem new_congr {l m : List ByteArray} (h : ∀ x, x ∈ l ↔ x ∈ m) : newB l = newB m :=
  asc_uniqueB _ _ (new_asc l) (new_asc m) (fun x => by rw [new_mem, new_mem]; exact h x)
theorem roles_mem (l : List St) (g h : List Rl) (qs : List Qv) (x : Rl) : x ∈ polRoles l g h qs ↔ x ∈ allRoles l g h qs := by
  unfold polRoles allRoles
  simp only [List.mem_append]
  constructor
  · rintro (((h1 | h1) | h1) | h1)
    · exact .inl (.inl (.inr h1))
    · exact .inl (.inr h1)
    · exact .inl (.inl (.inl h1))
    · exact .inr h1
  · rintro (((h1 | h1) | h1) | h1)
    · exact .inl (.inr h1)
    · exact .inl (.inl (.inl h1))
    · exact .inl (.inl (.inr h1))
    · exact .inr h1
theorem prins_congr (l : List St) (g h : List Rl) (qs : List Qv) (F : Qv → List ByteArray) : newB ((polRoles l g h qs).map Rl.o ++ l.flatMap whoS ++ qs.flatMap F) = newB (allPrins l g h qs F) :=
  new_congr (fun x => by unfold allPrins; simp only [List.mem_append, List.mem_map, roles_mem])
theorem names_congr (l : List St) (g h : List Rl) (qs : List Qv) : newB ((polRoles l g h qs).map Rl.n ++ l.flatMap viaS) = newB (allNames l g h qs) :=
  new_congr (fun x => by unfold allNames; simp only [List.mem_append, List.mem_map, roles_mem])
theorem push_txts {wA wr w3 : World} {vo : Value} {n m : Nat} {xs ms : List ByteArray} {a' : Option Addr} {cap' : Nat} (hb : Below wA.heap.size wA wr) (hown : wr.ownsRow wA.heap.size 9 1 vo n (strs xs))
    (h : w3.ownsRow wA.heap.size 9 1 (.slice a' (n + m) cap') (n + m) (strs xs ++ strs ms)) (hg : wr.grownBy w3 vo.ownBlock) :
    w3.ownsRow wA.heap.size 9 1 (.slice a' (n + m) cap') (n + m) (strs (xs ++ ms)) ∧ Below wA.heap.size wA w3 :=
  ⟨by rw [strs_app]; exact h, below_own hb hown hg hb.size (Nat.le_refl _)⟩
set_option maxRecDepth 100000 in
set_option maxHeartbeats 8000000 in
theorem policy_Prins (v0 v1 v2 v3 : Value) (l : List St) (g h : List Rl) (qs : List Qv) (w : World) (hp : PolAt w v0 v1 v2 v3 l g h qs) (hl : l.length ≤ 100) (hg : g.length ≤ 100) (hh : h.length ≤ 100) (hq : qs.length ≤ 100) (F : Qv → List ByteArray) (hF : WhoF w qs F) :
    Calls Tryz.prog 38 #[pv v0 v1 v2 v3] w fun e w' => ∃ v, e = .returned v ∧ w'.ownsRow w.heap.size 9 1 v (newB (allPrins l g h qs F)).length (strs (newB (allPrins l g h qs F))) ∧ (newB (allPrins l g h qs F)).length ≤ 6000 ∧ Below w.heap.size w w' := by
  have HP := Lib.hid hp
  have RO := Lib.hid (fun W (hb : Below w.heap.size w W) => policy_roles v0 v1 v2 v3 l g h qs W (hp.below hb) hl hg hh hq)
  have HFF := Lib.hid hF
  have RES := Lib.hid (prins_congr l g h qs F)
  obtain ⟨a0, c0, rfl⟩ := hp.rs.form
  obtain ⟨a1, c1, rfl⟩ := hp.rg.form
  obtain ⟨a2, c2, rfl⟩ := hp.rh.form
  obtain ⟨a3, c3, rfl⟩ := hp.rq.form
  have HT := Lib.hid (show OneAt w #[.slice a0 l.length c0, .slice a1 g.length c1, .slice a2 h.length c2, .slice a3 qs.length c3] (w.alloc (.cells #[.slice a0 l.length c0, .slice a1 g.length c1, .slice a2 h.length c2, .slice a3 qs.length c3] 26)) from ⟨Blk.new w _ _, (Below.refl _ _).alloc (Nat.le_refl _) _⟩)
  clear hp hF
  generalize polRoles l g h qs = rs at RO RES
  go_enter Tryz.func38, Tryz.ntmps38
  go_wp2_with fail
  refine (RO.out _ HT.out.low).mono ?_
  rintro e w1 ⟨vr, rfl, hr, hrl, hb⟩
  have HT := Lib.hid (HT.out.later hb)
  have HR := Lib.hid hr
  obtain ⟨ro, rc, rfl⟩ := hr.form
  clear hb hr RO
  obtain ⟨wA, hwA⟩ : ∃ wA, wA = w1 := ⟨_, rfl⟩
  subst hwA
  have HTA := Lib.hid HT.out
  go_wp2_with fail
  go_loopw [3, 13] (fun vo i wr => ∃ (k : Nat) (xs : List ByteArray), k ≤ rs.length ∧ i = .int .i64 k ∧ Hid (xs.length ≤ k) ∧ Hid (Below wA.heap.size wA wr) ∧ Hid (wr.ownsRow wA.heap.size 9 1 vo xs.length (strs xs)) ∧ Hid (xs = (rs.take k).map Rl.o)) (fun _ i _ => rs.length - (intOf i).toNat)
  case atStart => exact ⟨0, [], by omega, rfl, Lib.hid (by simp), Lib.hid (Below.refl _ _), Lib.hid (World.ownsRow_nil _ _ _ _), Lib.hid (by simp)⟩
  case round =>
    obtain ⟨k, xs, hk, rfl, HC, HB, HO, HE⟩ := hrel
    obtain ⟨oo, oc, rfl⟩ := own_form HO.out
    have hxs := HC.out
    by_cases hlt : k < rs.length
    · obtain ⟨b1, o1, e1, he1, hc1, hm1', hb1, hx1⟩ := HR.out.pos (by omega)
      simp only [Value.slice.injEq, true_and] at he1
      obtain ⟨rfl, rfl⟩ := he1
      obtain ⟨p0, p1⟩ := rl_cell (w := wr) (fun j u hu => (HB.out.cell (p := ⟨b1, o1 + j, none⟩) hb1).trans (hx1 j u hu)) k hlt
      have hbr : b1 < wr.heap.size := Nat.lt_of_lt_of_le hb1 HB.out.size
      have HF := Lib.hid (take_snoc hlt)
      clear hx1
      generalize rs[k] = x at *
      obtain ⟨x1, x2⟩ := x
      have hown := HO.out
      go_wp2_with (at_builtin; refine halt_ ?_)
      unfold Halt_
      refine app_own Tryz.underlying27 str_info rfl (by decide) (by decide) rfl _ _ rfl wA.heap.size rfl ((hown.alloc _).alloc _) [.string x1] rfl (heap_new2 _ _ _) rfl (str1 _) ?_ ?_ ?_
      · omega
      · have := HB.out.size; simp; omega
      intro a' cap' w3 hown' hgrow
      obtain ⟨q1, q2⟩ := own_push (x := x1) (HB.out.alloc HB.out.size _) (hown.alloc _) hown' hgrow
      have HO1 := Lib.hid q1
      have HB1 := Lib.hid q2
      clear hown hown' hgrow q1 q2
      go_wp2_with fail
      exact ⟨⟨k + 1, xs ++ [x1], by omega, by go_num, Lib.hid (by rw [List.length_append]; exact Nat.succ_le_succ hxs), HB1, HO1, Lib.hid (by rw [HF.out, List.map_append, HE.out]; rfl)⟩, by simp [intOf]; omega⟩
    · have HT := Lib.hid (HT.out.later HB.out)
      have hn0 : xs.length ≤ 1000 + 0 := by omega
      have HE0 := Lib.hid (show xs = rs.map Rl.o by rw [HE.out, List.take_of_length_le (show rs.length ≤ k by omega)])
      obtain ⟨ca, fa, za⟩ := HT.out.a
      clear hxs HC hk HE HR
      go_wp2_with fail
      clear ca fa za
      go_loopw [3, 26] (fun vo i wr => ∃ (k : Nat) (xs : List ByteArray), k ≤ l.length ∧ i = .int .i64 k ∧ Hid (xs.length ≤ 1000 + k) ∧ Hid (Below wA.heap.size wA wr) ∧ Hid (wr.ownsRow wA.heap.size 9 1 vo xs.length (strs xs)) ∧ Hid (xs = rs.map Rl.o ++ (l.take k).flatMap whoS)) (fun _ i _ => l.length - (intOf i).toNat)
      case atStart => exact ⟨0, _, by omega, rfl, Lib.hid hn0, HB, HO, Lib.hid (by rw [HE0.out]; simp)⟩
      case round =>
        clear HB HO hn0 HE0 HT
        obtain ⟨k, xs, hk, rfl, HC, HB, HO, HE⟩ := hrel
        obtain ⟨oo, oc, rfl⟩ := own_form HO.out
        have hxs := HC.out
        by_cases hlt : k < l.length
        · obtain ⟨b1, o1, e1, he1, hc1, hm1', hb1, hx1⟩ := HP.out.rs.pos (by omega)
          simp only [Value.slice.injEq, true_and] at he1
          obtain ⟨rfl, rfl⟩ := he1
          have hlow := HTA.out.low.trans (HB.out.mono HTA.out.low.size)
          obtain ⟨p0, p1, p2, p3, p4, p5, p6, p7, p8⟩ := st_cell (w := wr) (fun j u hu => (hlow.cell (p := ⟨b1, o1 + j, none⟩) hb1).trans (hx1 j u hu)) k hlt
          have hbr : b1 < wr.heap.size := Nat.lt_of_lt_of_le hb1 hlow.size
          have HF := Lib.hid (flat_snocF whoS hlt)
          clear hx1 hlow
          generalize l[k] = x at *
          obtain ⟨xk, ⟨x1, x2⟩, xw, ⟨x3, x4⟩, ⟨x5, x6⟩, xv⟩ := x
          by_cases hkk : xk = 1
          · have d1 : (xk == 1) = true := by simp [hkk]
            have HK := Lib.hid (show whoS ⟨xk, ⟨x1, x2⟩, xw, ⟨x3, x4⟩, ⟨x5, x6⟩, xv⟩ = [xw] from if_pos hkk)
            clear hkk
            have hown := HO.out
            go_wp2_with (at_builtin; refine halt_ ?_)
            unfold Halt_
            refine app_own Tryz.underlying27 str_info rfl (by decide) (by decide) rfl _ _ rfl wA.heap.size rfl ((hown.alloc _).alloc _) [.string xw] rfl (heap_new2 _ _ _) rfl (str1 _) ?_ ?_ ?_
            · omega
            · have := HB.out.size; simp; omega
            intro a' cap' w3 hown' hgrow
            obtain ⟨q1, q2⟩ := own_push (x := xw) (HB.out.alloc HB.out.size _) (hown.alloc _) hown' hgrow
            have HO1 := Lib.hid q1
            have HB1 := Lib.hid q2
            clear hown hown' hgrow q1 q2
            go_wp2_with fail
            exact ⟨⟨k + 1, xs ++ [xw], by omega, by go_num, Lib.hid (by rw [List.length_append]; exact Nat.succ_le_succ hxs), HB1, HO1, Lib.hid (by rw [HF.out, HK.out, HE.out, List.append_assoc])⟩, by simp [intOf]; omega⟩
          · have d1 : (xk == 1) = false := by simp [hkk]
            have HK := Lib.hid (show whoS ⟨xk, ⟨x1, x2⟩, xw, ⟨x3, x4⟩, ⟨x5, x6⟩, xv⟩ = [] from if_neg hkk)
            clear hkk
            have HO1 := Lib.hid (HO.out.alloc (.cells #[.int .i64 xk, .string x1, .string x2, .string xw, .string x3, .string x4, .string x5, .string x6, .string xv] 63))
            have HB1 := Lib.hid (HB.out.alloc HB.out.size (.cells #[.int .i64 xk, .string x1, .string x2, .string xw, .string x3, .string x4, .string x5, .string x6, .string xv] 63))
            go_wp2_with fail
            exact ⟨⟨k + 1, xs, by omega, by go_num, Lib.hid (by omega), HB1, HO1, Lib.hid (by rw [HF.out, HK.out, HE.out, List.append_nil])⟩, by simp [intOf]; omega⟩
        · have HT := Lib.hid (HTA.out.later HB.out)
          have hn0 : xs.length ≤ 1100 + 40 * 0 := by omega
          have HE0 := Lib.hid (show xs = rs.map Rl.o ++ l.flatMap whoS by rw [HE.out, List.take_of_length_le (show l.length ≤ k by omega)])
          obtain ⟨ca, fa, za⟩ := HT.out.a
          clear hxs HC hk HE
          go_wp2_with fail
          clear ca fa za
          go_loopw [3, 42] (fun vo i wr => ∃ (k : Nat) (xs : List ByteArray), k ≤ qs.length ∧ i = .int .i64 k ∧ Hid (xs.length ≤ 1100 + 40 * k) ∧ Hid (Below wA.heap.size wA wr) ∧ Hid (wr.ownsRow wA.heap.size 9 1 vo xs.length (strs xs)) ∧ Hid (xs = rs.map Rl.o ++ l.flatMap whoS ++ (qs.take k).flatMap F)) (fun _ i _ => qs.length - (intOf i).toNat)
          case atStart => exact ⟨0, _, by omega, rfl, Lib.hid hn0, HB, HO, Lib.hid (by rw [HE0.out]; simp)⟩
          case round =>
            clear HB HO hn0 HE0 HT
            obtain ⟨k, xs, hk, rfl, HC, HB, HO, HE⟩ := hrel
            obtain ⟨oo, oc, rfl⟩ := own_form HO.out
            have hxs := HC.out
            by_cases hlt : k < qs.length
            · obtain ⟨b1, o1, e1, he1, hc1, hm1', hb1, hx1⟩ := HP.out.rq.pos (by omega)
              simp only [Value.slice.injEq, true_and] at he1
              obtain ⟨rfl, rfl⟩ := he1
              have hlow := HTA.out.low.trans (HB.out.mono HTA.out.low.size)
              obtain ⟨p0, p1, p2, p3, p4, p5⟩ := q_cell (w := wr) (fun j u hu => (hlow.cell (p := ⟨b1, o1 + j, none⟩) hb1).trans (hx1 j u hu)) k hlt
              have hbr : b1 < wr.heap.size := Nat.lt_of_lt_of_le hb1 hlow.size
              have HF := Lib.hid (flat_snocF F hlt)
              obtain ⟨hu1, hu2⟩ := HFF.out _ (List.getElem_mem hlt)
              have QP := Lib.hid (fun W (hb : Below w.heap.size w W) => query_Prins qs[k] (F qs[k]) W (hu1.below hb) (by omega))
              have HLW := Lib.hid hlow
              generalize F qs[k] = us at hu1 hu2 HF QP
              obtain ⟨wo, wc, hw5⟩ := hu1.form
              clear hx1 hlow hu1
              generalize hnw : us.length = nw at hw5 hu2 QP
              have HNW := Lib.hid hnw
              clear hnw
              generalize qs[k] = x at *
              obtain ⟨xk, ⟨x1, x2⟩, ⟨x3, x4⟩, xw⟩ := x
              dsimp only at hw5
              subst hw5
              go_wp2_with fail
              refine (QP.out _ (HLW.out.alloc HLW.out.size _)).mono ?_
              rintro e w3 ⟨vz, rfl, hz, hb⟩
              have HO3 := Lib.hid (own_below (HO.out.alloc _) hb)
              have HB3 := Lib.hid ((HB.out.alloc HB.out.size _).trans (hb.mono (HB.out.alloc HB.out.size _).size))
              obtain ⟨zo, zc, rfl⟩ := hz.form
              have HZ := Lib.hid hz
              clear hz hb QP HLW
              go_wp2_with (at_builtin; refine halt_ ?_)
              unfold Halt_
              refine app_row Tryz.underlying27 str_info rfl (by decide) (by decide) rfl _ _ rfl wA.heap.size rfl HO3.out rfl HZ.out (strs_one _) (by omega) HB3.out.size ?_
              intro a' cap' w4 hown' hgrow
              obtain ⟨q1, q2⟩ := push_txts HB3.out HO3.out hown' hgrow
              have HO4 := Lib.hid (show w4.ownsRow wA.heap.size 9 1 (.slice a' (xs.length + nw) cap') (xs ++ us).length (strs (xs ++ us)) by rw [List.length_append, HNW.out]; exact q1)
              have HB4 := Lib.hid q2
              clear hown' hgrow q1 q2 HO3 HB3 HZ
              go_wp2_with fail
              exact ⟨⟨k + 1, xs ++ us, by omega, by go_num, Lib.hid (by rw [List.length_append, HNW.out]; omega), HB4, HO4, Lib.hid (by rw [HF.out, HE.out]; simp only [List.append_assoc])⟩, by simp [intOf]; omega⟩
            · have HXS := Lib.hid (show xs = rs.map Rl.o ++ l.flatMap whoS ++ qs.flatMap F by rw [HE.out, List.take_of_length_le (show qs.length ≤ k by omega)])
              have hxl : xs.length ≤ 6000 := by omega
              have NN := Lib.hid (names_New _ xs wr (Sl.of_own HO.out).a (by omega))
              rw [← HXS.out] at RES
              have hnl := new_len xs
              have HLW := Lib.hid (HTA.out.low.trans (HB.out.mono HTA.out.low.size))
              clear HC hk HE HO HXS
              go_wp2_with fail
              refine NN.out.mono ?_
              rintro e w4 ⟨b, rfl, ht, _, hb⟩
              have AL := Lib.hid (tab_All b (newB xs) w4 ht (by omega))
              have HLW := Lib.hid (HLW.out.trans (hb.mono HLW.out.size))
              clear ht hb NN
              go_wp2_with fail
              refine AL.out.mono ?_
              rintro e w5 ⟨v5, rfl, ho, hb⟩
              have HO5 := Lib.hid (own_base ho HLW.out.size)
              have HLW := Lib.hid (HLW.out.trans (hb.mono HLW.out.size))
              clear ho hb AL
              go_wp2
              go_ret
              exact ⟨_, rfl, by rw [← RES.out]; exact HO5.out, by rw [← RES.out]; omega, HLW.out⟩
set_option maxRecDepth 100000 in
set_option maxHeartbeats 8000000 in
theorem policy_Names (v0 v1 v2 v3 : Value) (l : List St) (g h : List Rl) (qs : List Qv) (w : World) (hp : PolAt w v0 v1 v2 v3 l g h qs) (hl : l.length ≤ 100) (hg : g.length ≤ 100) (hh : h.length ≤ 100) (hq : qs.length ≤ 100) :
    Calls Tryz.prog 40 #[pv v0 v1 v2 v3] w fun e w' => ∃ v, e = .returned v ∧ w'.ownsRow w.heap.size 9 1 v (newB (allNames l g h qs)).length (strs (newB (allNames l g h qs))) ∧ (newB (allNames l g h qs)).length ≤ 6000 ∧ Below w.heap.size w w' := by
  have HP := Lib.hid hp
  have RO := Lib.hid (fun W (hb : Below w.heap.size w W) => policy_roles v0 v1 v2 v3 l g h qs W (hp.below hb) hl hg hh hq)
  skip
  have RES := Lib.hid (names_congr l g h qs)
  obtain ⟨a0, c0, rfl⟩ := hp.rs.form
  obtain ⟨a1, c1, rfl⟩ := hp.rg.form
  obtain ⟨a2, c2, rfl⟩ := hp.rh.form
  obtain ⟨a3, c3, rfl⟩ := hp.rq.form
  have HT := Lib.hid (show OneAt w #[.slice a0 l.length c0, .slice a1 g.length c1, .slice a2 h.length c2, .slice a3 qs.length c3] (w.alloc (.cells #[.slice a0 l.length c0, .slice a1 g.length c1, .slice a2 h.length c2, .slice a3 qs.length c3] 26)) from ⟨Blk.new w _ _, (Below.refl _ _).alloc (Nat.le_refl _) _⟩)
  clear hp
  generalize polRoles l g h qs = rs at RO RES
  go_enter Tryz.func40, Tryz.ntmps40
  go_wp2_with fail
  refine (RO.out _ HT.out.low).mono ?_
  rintro e w1 ⟨vr, rfl, hr, hrl, hb⟩
  have HT := Lib.hid (HT.out.later hb)
  have HR := Lib.hid hr
  obtain ⟨ro, rc, rfl⟩ := hr.form
  clear hb hr RO
  obtain ⟨wA, hwA⟩ : ∃ wA, wA = w1 := ⟨_, rfl⟩
  subst hwA
  have HTA := Lib.hid HT.out
  go_wp2_with fail
  go_loopw [3, 11] (fun vo i wr => ∃ (k : Nat) (xs : List ByteArray), k ≤ rs.length ∧ i = .int .i64 k ∧ Hid (xs.length ≤ k) ∧ Hid (Below wA.heap.size wA wr) ∧ Hid (wr.ownsRow wA.heap.size 9 1 vo xs.length (strs xs)) ∧ Hid (xs = (rs.take k).map Rl.n)) (fun _ i _ => rs.length - (intOf i).toNat)
  case atStart => exact ⟨0, [], by omega, rfl, Lib.hid (by simp), Lib.hid (Below.refl _ _), Lib.hid (World.ownsRow_nil _ _ _ _), Lib.hid (by simp)⟩
  case round =>
    obtain ⟨k, xs, hk, rfl, HC, HB, HO, HE⟩ := hrel
    obtain ⟨oo, oc, rfl⟩ := own_form HO.out
    have hxs := HC.out
    by_cases hlt : k < rs.length
    · obtain ⟨b1, o1, e1, he1, hc1, hm1', hb1, hx1⟩ := HR.out.pos (by omega)
      simp only [Value.slice.injEq, true_and] at he1
      obtain ⟨rfl, rfl⟩ := he1
      obtain ⟨p0, p1⟩ := rl_cell (w := wr) (fun j u hu => (HB.out.cell (p := ⟨b1, o1 + j, none⟩) hb1).trans (hx1 j u hu)) k hlt
      have hbr : b1 < wr.heap.size := Nat.lt_of_lt_of_le hb1 HB.out.size
      have HF := Lib.hid (take_snoc hlt)
      clear hx1
      generalize rs[k] = x at *
      obtain ⟨x1, x2⟩ := x
      have hown := HO.out
      go_wp2_with (at_builtin; refine halt_ ?_)
      unfold Halt_
      refine app_own Tryz.underlying27 str_info rfl (by decide) (by decide) rfl _ _ rfl wA.heap.size rfl ((hown.alloc _).alloc _) [.string x2] rfl (heap_new2 _ _ _) rfl (str1 _) ?_ ?_ ?_
      · omega
      · have := HB.out.size; simp; omega
      intro a' cap' w3 hown' hgrow
      obtain ⟨q1, q2⟩ := own_push (x := x2) (HB.out.alloc HB.out.size _) (hown.alloc _) hown' hgrow
      have HO1 := Lib.hid q1
      have HB1 := Lib.hid q2
      clear hown hown' hgrow q1 q2
      go_wp2_with fail
      exact ⟨⟨k + 1, xs ++ [x2], by omega, by go_num, Lib.hid (by rw [List.length_append]; exact Nat.succ_le_succ hxs), HB1, HO1, Lib.hid (by rw [HF.out, List.map_append, HE.out]; rfl)⟩, by simp [intOf]; omega⟩
    · have HT := Lib.hid (HT.out.later HB.out)
      have hn0 : xs.length ≤ 1000 + 0 := by omega
      have HE0 := Lib.hid (show xs = rs.map Rl.n by rw [HE.out, List.take_of_length_le (show rs.length ≤ k by omega)])
      obtain ⟨ca, fa, za⟩ := HT.out.a
      clear hxs HC hk HE HR
      go_wp2_with fail
      clear ca fa za
      go_loopw [3, 24] (fun vo i wr => ∃ (k : Nat) (xs : List ByteArray), k ≤ l.length ∧ i = .int .i64 k ∧ Hid (xs.length ≤ 1000 + k) ∧ Hid (Below wA.heap.size wA wr) ∧ Hid (wr.ownsRow wA.heap.size 9 1 vo xs.length (strs xs)) ∧ Hid (xs = rs.map Rl.n ++ (l.take k).flatMap viaS)) (fun _ i _ => l.length - (intOf i).toNat)
      case atStart => exact ⟨0, _, by omega, rfl, Lib.hid hn0, HB, HO, Lib.hid (by rw [HE0.out]; simp)⟩
      case round =>
        clear HB HO hn0 HE0 HT
        obtain ⟨k, xs, hk, rfl, HC, HB, HO, HE⟩ := hrel
        obtain ⟨oo, oc, rfl⟩ := own_form HO.out
        have hxs := HC.out
        by_cases hlt : k < l.length
        · obtain ⟨b1, o1, e1, he1, hc1, hm1', hb1, hx1⟩ := HP.out.rs.pos (by omega)
          simp only [Value.slice.injEq, true_and] at he1
          obtain ⟨rfl, rfl⟩ := he1
          have hlow := HTA.out.low.trans (HB.out.mono HTA.out.low.size)
          obtain ⟨p0, p1, p2, p3, p4, p5, p6, p7, p8⟩ := st_cell (w := wr) (fun j u hu => (hlow.cell (p := ⟨b1, o1 + j, none⟩) hb1).trans (hx1 j u hu)) k hlt
          have hbr : b1 < wr.heap.size := Nat.lt_of_lt_of_le hb1 hlow.size
          have HF := Lib.hid (flat_snocF viaS hlt)
          clear hx1 hlow
          generalize l[k] = x at *
          obtain ⟨xk, ⟨x1, x2⟩, xw, ⟨x3, x4⟩, ⟨x5, x6⟩, xv⟩ := x
          by_cases hkk : xk = 3
          · have d1 : (xk == 3) = true := by simp [hkk]
            have HK := Lib.hid (show viaS ⟨xk, ⟨x1, x2⟩, xw, ⟨x3, x4⟩, ⟨x5, x6⟩, xv⟩ = [xv] from if_pos hkk)
            clear hkk
            have hown := HO.out
            go_wp2_with (at_builtin; refine halt_ ?_)
            unfold Halt_
            refine app_own Tryz.underlying27 str_info rfl (by decide) (by decide) rfl _ _ rfl wA.heap.size rfl ((hown.alloc _).alloc _) [.string xv] rfl (heap_new2 _ _ _) rfl (str1 _) ?_ ?_ ?_
            · omega
            · have := HB.out.size; simp; omega
            intro a' cap' w3 hown' hgrow
            obtain ⟨q1, q2⟩ := own_push (x := xv) (HB.out.alloc HB.out.size _) (hown.alloc _) hown' hgrow
            have HO1 := Lib.hid q1
            have HB1 := Lib.hid q2
            clear hown hown' hgrow q1 q2
            go_wp2_with fail
            exact ⟨⟨k + 1, xs ++ [xv], by omega, by go_num, Lib.hid (by rw [List.length_append]; exact Nat.succ_le_succ hxs), HB1, HO1, Lib.hid (by rw [HF.out, HK.out, HE.out, List.append_assoc])⟩, by simp [intOf]; omega⟩
          · have d1 : (xk == 3) = false := by simp [hkk]
            have HK := Lib.hid (show viaS ⟨xk, ⟨x1, x2⟩, xw, ⟨x3, x4⟩, ⟨x5, x6⟩, xv⟩ = [] from if_neg hkk)
            clear hkk
            have HO1 := Lib.hid (HO.out.alloc (.cells #[.int .i64 xk, .string x1, .string x2, .string xw, .string x3, .string x4, .string x5, .string x6, .string xv] 63))
            have HB1 := Lib.hid (HB.out.alloc HB.out.size (.cells #[.int .i64 xk, .string x1, .string x2, .string xw, .string x3, .string x4, .string x5, .string x6, .string xv] 63))
            go_wp2_with fail
            exact ⟨⟨k + 1, xs, by omega, by go_num, Lib.hid (by omega), HB1, HO1, Lib.hid (by rw [HF.out, HK.out, HE.out, List.append_nil])⟩, by simp [intOf]; omega⟩
        · have HXS := Lib.hid (show xs = rs.map Rl.n ++ l.flatMap viaS by rw [HE.out, List.take_of_length_le (show l.length ≤ k by omega)])
          have hxl : xs.length ≤ 6000 := by omega
          have NN := Lib.hid (names_New _ xs wr (Sl.of_own HO.out).a (by omega))
          rw [← HXS.out] at RES
          have hnl := new_len xs
          have HLW := Lib.hid (HTA.out.low.trans (HB.out.mono HTA.out.low.size))
          clear HC hk HE HO HXS
          go_wp2_with fail
          refine NN.out.mono ?_
          rintro e w4 ⟨b, rfl, ht, _, hb⟩
          have AL := Lib.hid (tab_All b (newB xs) w4 ht (by omega))
          have HLW := Lib.hid (HLW.out.trans (hb.mono HLW.out.size))
          clear ht hb NN
          go_wp2_with fail
          refine AL.out.mono ?_
          rintro e w5 ⟨v5, rfl, ho, hb⟩
          have HO5 := Lib.hid (own_base ho HLW.out.size)
          have HLW := Lib.hid (HLW.out.trans (hb.mono HLW.out.size))
          clear ho hb AL
          go_wp2
          go_ret
          exact ⟨_, rfl, by rw [← RES.out]; exact HO5.out, by rw [← RES.out]; omega, HLW.out⟩
end Go.Proofs.YtnhkgfgbhedphaaGreatDoor
namespace Go.Proofs.YtnhkgfgbhedphaaGreatDoor
open Go.RowKit Go.Shelf

theorem eqRl_selfR (x : Rl) : eqRl x x = true := decide_eq_true rfl
theorem hasR_mem (l : List Rl) (x : Rl) : hasR l x = true ↔ x ∈ l := by
  unfold hasR; rw [List.any_eq_true]
  constructor
  · rintro ⟨y, hy, e⟩; rw [← of_decide_eq_true e]; exact hy
  · intro h; exact ⟨x, h, eqRl_selfR x⟩
theorem lt_trans'R {x y z : Rl} (h : cmpR x y < 0) (h' : cmpR y z < 0) : cmpR x z < 0 := by
  obtain ⟨a, b⟩ := wcmp_rl.le x y z (by omega) (by omega)
  have : ¬ cmpR x z = 0 := fun e => by have := (b e).1; omega
  omega
theorem lt_irrefl'R (x : Rl) : ¬ cmpR x x < 0 := by have := (cmpR_zero x x).2 rfl; omega
def AscR (l : List Rl) : Prop := l.Pairwise fun x y => cmpR x y < 0
theorem asc_uniqueR : ∀ (l m : List Rl), AscR l → AscR m → (∀ x, x ∈ l ↔ x ∈ m) → l = m
  | [], [], _, _, _ => rfl
  | [], y :: m, _, _, h => absurd ((h y).2 (by simp)) (by simp)
  | x :: l, [], _, _, h => absurd ((h x).1 (by simp)) (by simp)
  | x :: l, y :: m, hl, hm, h => by
    have hl' := List.pairwise_cons.1 hl
    have hm' := List.pairwise_cons.1 hm
    have e : x = y := by
      rcases List.mem_cons.1 ((h x).1 (by simp)) with e | e
      · exact e
      · rcases List.mem_cons.1 ((h y).2 (by simp)) with e' | e'
        · exact e'.symm
        · exact absurd (lt_trans'R (hm'.1 x e) (hl'.1 y e')) (lt_irrefl'R y)
    subst e
    refine congrArg (x :: ·) (asc_uniqueR l m hl'.2 hm'.2 fun z => ?_)
    constructor
    · intro hz
      rcases List.mem_cons.1 ((h z).1 (by simp [hz])) with e | e
      · subst e; exact absurd (hl'.1 z hz) (lt_irrefl'R z)
      · exact e
    · intro hz
      rcases List.mem_cons.1 ((h z).2 (by simp [hz])) with e | e
      · subst e; exact absurd (hm'.1 z hz) (lt_irrefl'R z)
      · exact e
def dedupR : List Rl → List Rl
  | [] => []
  | [x] => [x]
  | x :: y :: r => if x = y then dedupR (y :: r) else x :: dedupR (y :: r)
theorem dedup_memR : ∀ (l : List Rl) (z : Rl), z ∈ dedupR l ↔ z ∈ l
  | [], z => by simp [dedupR]
  | [x], z => by simp [dedupR]
  | x :: y :: r, z => by
    have ih := dedup_memR (y :: r) z
    unfold dedupR
    by_cases e : x = y
    · rw [if_pos e, ih, e]; simp
    · rw [if_neg e, List.mem_cons, ih, List.mem_cons (b := x)]
theorem dedup_ascR : ∀ (l : List Rl), (l.Pairwise fun x y => cmpR x y ≤ 0) → AscR (dedupR l)
  | [], _ => List.Pairwise.nil
  | [x], _ => by simp [dedupR, AscR]
  | x :: y :: r, h => by
    have h' := List.pairwise_cons.1 h
    have ih := dedup_ascR (y :: r) h'.2
    unfold dedupR
    by_cases e : x = y
    · rw [if_pos e]; exact ih
    · rw [if_neg e]
      refine List.pairwise_cons.2 ⟨fun z hz => ?_, ih⟩
      have hxy : cmpR x y < 0 := by
        have := h'.1 y (by simp)
        have h0 : ¬ cmpR x y = 0 := fun e' => e ((cmpR_zero x y).1 e')
        omega
      have hz' := (dedup_memR (y :: r) z).1 hz
      rcases List.mem_cons.1 hz' with rfl | hz'
      · exact hxy
      · have hyz := (List.pairwise_cons.1 h'.2).1 z hz'
        obtain ⟨a, b⟩ := wcmp_rl.le x y z (by omega) hyz
        have : ¬ cmpR x z = 0 := fun e => by have := (b e).1; omega
        omega
theorem insS_memR (l : List Rl) (x z : Rl) : z ∈ insSR l x ↔ z ∈ l ∨ z = x := by
  unfold insSR
  by_cases h : hasR l x = true
  · rw [if_pos h]
    exact ⟨.inl, fun h' => h'.elim id (fun e => e ▸ (hasR_mem l x).1 h)⟩
  · rw [if_neg h]
    unfold insAtR
    rw [List.mem_append, List.mem_cons]
    have := List.take_append_drop (posSR l x) l
    constructor
    · rintro (h | h | h)
      · exact .inl (List.mem_of_mem_take h)
      · exact .inr h
      · exact .inl (List.mem_of_mem_drop h)
    · rintro (h | h)
      · rw [← this] at h
        rcases List.mem_append.1 h with h | h
        · exact .inl h
        · exact .inr (.inr h)
      · exact .inr (.inl h)
theorem pos_takeR : ∀ (l : List Rl) (x z : Rl), z ∈ l.take (posSR l x) → cmpR z x < 0
  | [], _, _, h => by simp at h
  | a :: r, x, z, h => by
    unfold posSR at h
    by_cases ha : cmpR a x < 0
    · rw [if_pos ha] at h
      rcases List.mem_cons.1 (by simpa using h) with rfl | h
      · exact ha
      · exact pos_takeR r x z h
    · rw [if_neg ha] at h; simp at h
theorem pos_dropR : ∀ (l : List Rl) (x z : Rl), AscR l → z ∈ l.drop (posSR l x) → ¬ cmpR z x < 0
  | [], _, _, _, h => by simp at h
  | a :: r, x, z, hl, h => by
    unfold posSR at h
    by_cases ha : cmpR a x < 0
    · rw [if_pos ha] at h
      exact pos_dropR r x z (List.pairwise_cons.1 hl).2 (by simpa using h)
    · rw [if_neg ha] at h
      rcases List.mem_cons.1 (by simpa using h) with rfl | h
      · exact ha
      · have := (List.pairwise_cons.1 hl).1 z h
        intro hz; exact ha (lt_trans'R this hz)
theorem insS_ascR {l : List Rl} (h : AscR l) (x : Rl) : AscR (insSR l x) := by
  unfold insSR
  by_cases hx : hasR l x = true
  · rw [if_pos hx]; exact h
  · rw [if_neg hx]
    have hn : ¬ x ∈ l := fun h' => hx ((hasR_mem l x).2 h')
    have h1 : AscR (l.take (posSR l x)) := h.sublist (List.take_sublist _ _)
    have h2 : AscR (l.drop (posSR l x)) := h.sublist (List.drop_sublist _ _)
    have h3 : ∀ a ∈ l.take (posSR l x), ∀ b ∈ l.drop (posSR l x), cmpR a b < 0 := by
      have := h
      rw [AscR, ← List.take_append_drop (posSR l x) l, List.pairwise_append] at this
      exact this.2.2
    unfold insAtR AscR
    rw [List.pairwise_append, List.pairwise_cons]
    refine ⟨h1, ⟨fun b hb => ?_, h2⟩, fun a ha b hb => ?_⟩
    · have h4 := pos_dropR l x b h hb
      have h5 : ¬ cmpR b x = 0 := fun e => hn ((cmpR_zero b x).1 e ▸ List.mem_of_mem_drop hb)
      have := wcmp_rl.neg b x
      omega
    · rcases List.mem_cons.1 hb with rfl | hb
      · exact pos_takeR l b a ha
      · exact h3 a ha b hb
theorem insAll_ascR : ∀ (l acc : List Rl), AscR acc → AscR (insAllR acc l)
  | [], _, h => h
  | x :: l, _, h => insAll_ascR l _ (insS_ascR h x)
theorem insAll_memR : ∀ (l acc : List Rl) (z : Rl), z ∈ insAllR acc l ↔ z ∈ acc ∨ z ∈ l
  | [], acc, z => by simp [insAllR]
  | x :: l, acc, z => by
    unfold insAllR
    rw [insAll_memR l, insS_memR, List.mem_cons, or_assoc]
def ordR (l : List Rl) : List Rl := insAllR [] l
theorem ord_ascR (l : List Rl) : AscR (ordR l) := insAll_ascR l [] List.Pairwise.nil
theorem ord_memR (l : List Rl) (x : Rl) : x ∈ ordR l ↔ x ∈ l := by unfold ordR; rw [insAll_memR]; simp
theorem asc_ordR {l : List Rl} (h : AscR l) : ordR l = l := asc_uniqueR _ _ (ord_ascR _) h (ord_memR l)
theorem insAll_lenR : ∀ (l acc : List Rl), (insAllR acc l).length ≤ acc.length + l.length
  | [], acc => Nat.le_refl _
  | x :: r, acc => by
    have h1 := insAll_lenR r (insSR acc x)
    have h2 := insS_lenR acc x
    show (insAllR (insSR acc x) r).length ≤ acc.length + (r.length + 1)
    omega
end Go.Proofs.YtnhkgfgbhedphaaGreatDoor
