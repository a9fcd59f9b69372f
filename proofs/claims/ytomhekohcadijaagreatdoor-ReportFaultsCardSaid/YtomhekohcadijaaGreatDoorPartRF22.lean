/- A query that may be is what its line is read as; what is read may be. Which queries may be: as the program tells it, and as rows in order. The lines of a text, in plain Lean. slices.IndexFunc and ContainsFunc at texts and at queries (printed by gen_idx.py). -/
import Derived.Test.YtomhekohcadijaaGreatDoorPartRF21
import Derived.Test.YtomhekohcadijaaGreatDoorPartRF18
import Derived.Test.YtomhekohcadijaaGreatDoorPartRF1
import Derived.Lib.IndexLaws
import Derived.Test.YtomhekohcadijaaGreatDoorPartRF16
namespace Go.Proofs.YtomhekohcadijaaGreatDoor
open Go.RowKit

structure GoodQ (q : Qd) : Prop where
  lo : 1 ≤ q.k
  hi : q.k ≤ 6
  a : isRole q.a = true
  p : ∀ x ∈ q.us, isP 65 90 (bl x) = true
  asc : AscB q.us
  few : q.us.length ≤ 12
  two : 5 ≤ q.k → isRole q.b = true
  one : ¬ 5 ≤ q.k → q.b = noR
  none : 4 ≤ q.k → q.us = []
  some : q.k ≤ 2 → ¬ q.us.length = 0
theorem isP_size' {lo hi : Int} {x : ByteArray} (h : isP lo hi (bl x) = true) : x.size ≤ 8 := by have := (isP_len h).2; rwa [bl_len] at this
theorem tailL_len (M : Nat) : ∀ (xs : List ByteArray), (∀ x ∈ xs, x.size ≤ M) → (tailL xs).length ≤ xs.length * (M + 1)
  | [], _ => by simp [tailL]
  | x :: r, h => by
    have h1 := tailL_len M r (fun y hy => h y (by simp [hy]))
    have h2 := h x (by simp)
    rw [tailL_cons, List.length_cons, List.length_append, bl_len, List.length_cons, Nat.succ_mul]
    omega
theorem tailL_plain : ∀ (xs : List ByteArray), (∀ x ∈ xs, ∀ c ∈ bl x, ¬ c = 35) → ∀ c ∈ tailL xs, ¬ c = 35
  | [], _ => fun c hc => by cases hc
  | x :: r, h => fun c hc => by
    rw [tailL_cons] at hc
    rcases List.mem_cons.1 hc with rfl | hc
    · decide
    rcases List.mem_append.1 hc with hc | hc
    · exact h x (by simp) c hc
    · exact tailL_plain r (fun y hy => h y (by simp [hy])) c hc
theorem role_plain {x : Rl} (h : isRole x = true) : ∀ c ∈ bl (roleT x), ¬ c = 35 := by
  simp only [isRole, Bool.and_eq_true] at h
  have e : bl (roleT x) = bl x.o ++ 46 :: bl x.n := by simp [roleT, bl]
  intro c hc
  rw [e] at hc
  rcases List.mem_append.1 hc with hc | hc
  · exact isP_plain h.1 c hc
  rcases List.mem_cons.1 hc with rfl | hc
  · decide
  · exact isP_plain h.2 c hc
theorem role_size {x : Rl} (h : isRole x = true) : (roleT x).size ≤ 17 := by
  simp only [isRole, Bool.and_eq_true] at h
  have h1 := isP_size' h.1
  have h2 := isP_size' h.2
  have e : (⟨#[46]⟩ : ByteArray).size = 1 := rfl
  simp only [roleT, ByteArray.size_append, e]
  omega
theorem words_len (k : Int) : (tailL (wordsL k)).length ≤ 9 := by
  unfold wordsL
  split
  · decide
  split
  · decide
  split
  · decide
  split
  · decide
  split
  · decide
  split <;> decide
theorem words_plain (k : Int) : ∀ c ∈ tailL (wordsL k), ¬ c = 35 := by
  unfold wordsL
  split
  · decide
  split
  · decide
  split
  · decide
  split
  · decide
  split
  · decide
  split <;> decide
theorem lineQ_app (q : Qd) : lineQ q = bl (headW q.k) ++ (32 :: (bl (roleT q.a) ++ (tailL (wordsL q.k) ++ (tailL (if secB q.k = true then [roleT q.b] else []) ++ tailL q.us)))) := by
  unfold lineQ
  rw [tailL_cons, tailL_app, tailL_app]
theorem lineQ_plain (q : Qd) (h : GoodQ q) : ∀ c ∈ lineQ q, ¬ c = 35 := by
  rw [lineQ_app]
  intro c hc
  rcases List.mem_append.1 hc with hc | hc
  · unfold headW at hc
    split at hc
    · exact isP_plain (word_isP' _ (by simp)) c hc
    · exact isP_plain (word_isP' _ (by simp)) c hc
  rcases List.mem_cons.1 hc with rfl | hc
  · decide
  rcases List.mem_append.1 hc with hc | hc
  · exact role_plain h.a c hc
  rcases List.mem_append.1 hc with hc | hc
  · exact words_plain _ c hc
  rcases List.mem_append.1 hc with hc | hc
  · refine tailL_plain _ (fun x hx => ?_) c hc
    split at hx
    · rename_i hs
      rw [List.mem_singleton.1 hx]
      refine role_plain (h.two ?_)
      unfold secB at hs
      simp only [Bool.or_eq_true, decide_eq_true_iff] at hs
      omega
    · cases hx
  · exact tailL_plain _ (fun x hx => isP_plain (h.p x hx)) c hc
theorem lineQ_len (q : Qd) (h : GoodQ q) : (lineQ q).length ≤ 200 := by
  rw [lineQ_app]
  have h1 : (bl (headW q.k)).length ≤ 6 := by unfold headW; split <;> decide
  have h2 := role_size h.a
  have h3 := words_len q.k
  have h4 : (tailL (if secB q.k = true then [roleT q.b] else [])).length ≤ 18 := by
    split
    · rename_i hs
      have hb := h.two (by unfold secB at hs; simp only [Bool.or_eq_true, decide_eq_true_iff] at hs; omega)
      have := role_size hb
      rw [tailL_cons]
      simp only [List.length_cons, List.length_append, bl_len]
      have e : (tailL []).length = 0 := rfl
      omega
    · exact Nat.zero_le _
  have h5 := tailL_len 8 q.us (fun x hx => isP_size' (h.p x hx))
  have h6 := h.few
  simp only [List.length_append, List.length_cons, bl_len] at h1 ⊢
  omega
def textQ (q : Qd) : ByteArray := joinB (partsQ q) ⟨#[32]⟩
theorem textQ_size (q : Qd) (h : GoodQ q) : (textQ q).size ≤ 200 := by
  have := lineQ_len q h
  rw [← bl_len]
  unfold textQ
  rw [parts_line]
  exact this
end Go.Proofs.YtomhekohcadijaaGreatDoor
namespace Go.Proofs.YtomhekohcadijaaGreatDoor
open Go.RowKit Go.Shelf

theorem rises_asc {us : List ByteArray} (h : rises us = true) : (∀ x ∈ us, isP 65 90 (bl x) = true) ∧ AscB us := by
  unfold rises at h
  rw [List.all_eq_true] at h
  have h' : ∀ i, i < us.length → risesAt us i = true := fun i hi => h i (List.mem_range.2 hi)
  refine ⟨fun x hx => ?_, ?_⟩
  · obtain ⟨i, hi, rfl⟩ := List.getElem_of_mem hx
    have := h' i hi
    unfold risesAt at this
    rw [Bool.and_eq_true, getD_at hi] at this
    exact this.1
  · have adj : ∀ i (hi : i + 1 < us.length), cmpS us[i] us[i + 1] < 0 := fun i hi => by
      have := h' (i + 1) hi
      unfold risesAt at this
      rw [Bool.and_eq_true, Bool.or_eq_true, getD_at hi] at this
      rcases this.2 with e | e
      · exact absurd (of_decide_eq_true e) (by omega)
      · rw [Nat.add_sub_cancel, getD_at (by omega), ← str_less, decide_eq_true_iff] at e
        exact e
    have far : ∀ d i (hi : i + d + 1 < us.length), cmpS us[i] us[i + d + 1] < 0 := by
      intro d
      induction d with
      | zero => exact fun i hi => adj i hi
      | succ d ih => exact fun i hi => lt_trans'B (ih i (by omega)) (adj (i + d + 1) hi)
    exact List.pairwise_iff_getElem.2 fun i j hi hj hij => by
      obtain ⟨d, rfl⟩ : ∃ d, j = i + d + 1 := ⟨j - i - 1, by omega⟩
      exact far d i hj
theorem rises_of {us : List ByteArray} (hp : ∀ x ∈ us, isP 65 90 (bl x) = true) (ha : AscB us) : rises us = true := by
  refine rises_yes (k := us.length) (by omega) (fun j hj => ?_)
  unfold risesAt
  rw [getD_at hj, hp _ (List.getElem_mem hj), Bool.true_and, Bool.or_eq_true]
  by_cases h0 : j = 0
  · exact .inl (decide_eq_true h0)
  · refine .inr ?_
    rw [getD_at (by omega), ← str_less, decide_eq_true_iff]
    exact List.pairwise_iff_getElem.1 ha (j - 1) j (by omega) hj (by omega)
theorem good_of {q : Qv} {us : List ByteArray} (h : rightQ q us = true) : GoodQ ⟨q.k, q.a, q.b, us⟩ := by
  unfold rightQ at h
  simp only [Bool.and_eq_true, decide_eq_true_iff] at h
  obtain ⟨h1, h6, ha, hr, h⟩ := h
  obtain ⟨hp, hasc⟩ := rises_asc hr
  by_cases h5 : 5 ≤ q.k
  · rw [if_pos h5] at h
    simp only [Bool.and_eq_true, decide_eq_true_iff] at h
    obtain ⟨hb, hl⟩ := h
    exact ⟨h1, h6, ha, hp, hasc, by show us.length ≤ 12; omega, fun _ => hb, fun h => absurd h5 h, fun _ => List.eq_nil_of_length_eq_zero hl, fun h => by dsimp only at h; omega⟩
  · rw [if_neg h5] at h
    simp only [Bool.and_eq_true, decide_eq_true_iff, eqRl] at h
    obtain ⟨hb, hl, h⟩ := h
    by_cases h4 : q.k = 4
    · rw [if_pos h4, decide_eq_true_iff] at h
      exact ⟨h1, h6, ha, hp, hasc, hl, fun h => absurd h h5, fun _ => hb, fun _ => List.eq_nil_of_length_eq_zero h, fun h => by dsimp only at h; omega⟩
    · rw [if_neg h4, Bool.or_eq_true, decide_eq_true_iff, decide_eq_true_iff] at h
      exact ⟨h1, h6, ha, hp, hasc, hl, fun h => absurd h h5, fun _ => hb, fun h => by dsimp only at h; omega, fun hk => by
        dsimp only at hk ⊢
        rcases h with h | h
        · omega
        · omega⟩
theorem right_of {q : Qv} {us : List ByteArray} (h : GoodQ ⟨q.k, q.a, q.b, us⟩) : rightQ q us = true := by
  obtain ⟨h1, h6, ha, hp, hasc, hfew, htwo, hone, hnone, hsome⟩ := h
  dsimp only at h1 h6 ha hp hasc hfew htwo hone hnone hsome
  unfold rightQ
  rw [decide_eq_true h1, decide_eq_true h6, ha, rises_of hp hasc]
  simp only [Bool.true_and]
  by_cases h5 : 5 ≤ q.k
  · rw [if_pos h5, htwo h5, hnone (by omega)]; rfl
  · rw [if_neg h5, decide_eq_true hfew]
    have hb : eqRl q.b noR = true := decide_eq_true (hone h5)
    rw [hb]
    simp only [Bool.true_and]
    by_cases h4 : q.k = 4
    · rw [if_pos h4, hnone (by omega)]; rfl
    · rw [if_neg h4, Bool.or_eq_true, decide_eq_true_iff, decide_eq_true_iff]
      by_cases h3 : q.k = 3
      · exact .inl h3
      · have := hsome (by omega)
        exact .inr (by omega)
theorem right_iff {q : Qv} {us : List ByteArray} : rightQ q us = true ↔ GoodQ ⟨q.k, q.a, q.b, us⟩ := ⟨good_of, right_of⟩
end Go.Proofs.YtomhekohcadijaaGreatDoor
namespace Go.Proofs.YtomhekohcadijaaGreatDoor
open Go.RowKit Go.Shelf

def linesP : List UInt8 → List (List UInt8 × Bool)
  | [] => []
  | c :: r => if c = 10 then ([], true) :: linesP r else match linesP r with
    | [] => [([c], false)]
    | x :: xs => (c :: x.1, x.2) :: xs
def fullL (p : List UInt8 × Bool) : List UInt8 := if p.2 = true then p.1 ++ [10] else p.1
theorem lines_cons {c : UInt8} (r : List UInt8) (h : c ≠ 10) : linesP (c :: r) = (match linesP r with | [] => [([c], false)] | x :: xs => (c :: x.1, x.2) :: xs) := if_neg h
theorem lines_nl (r : List UInt8) : linesP (10 :: r) = ([], true) :: linesP r := if_pos rfl
theorem lines_nil : ∀ {l : List UInt8}, linesP l = [] → l = []
  | [], _ => rfl
  | c :: r, h => by
    by_cases hc : c = 10
    · rw [hc, lines_nl] at h; exact absurd h (by simp)
    · rw [lines_cons r hc] at h
      cases hr : linesP r with
      | nil => rw [hr] at h; exact absurd h (by simp)
      | cons x xs => rw [hr] at h; exact absurd h (by simp)
theorem lines_full : ∀ l : List UInt8, (linesP l).flatMap fullL = l
  | [] => rfl
  | c :: r => by
    have ih := lines_full r
    by_cases hc : c = 10
    · rw [hc, lines_nl, List.flatMap_cons, ih]; rfl
    · rw [lines_cons r hc]
      cases hr : linesP r with
      | nil =>
        obtain rfl := lines_nil hr
        rfl
      | cons x xs =>
        rw [hr, List.flatMap_cons] at ih
        show fullL (c :: x.1, x.2) ++ xs.flatMap fullL = c :: r
        rw [← ih]
        unfold fullL
        cases x.2 <;> rfl
theorem lines_at : ∀ (l : List UInt8) (j : Nat), (∀ k, k < j → l[k]? ≠ some 10) → l[j]? = some 10 → linesP l = (l.take j, true) :: linesP (l.drop (j + 1))
  | [], j, _, h => by simp at h
  | c :: r, 0, _, h => by
    obtain rfl : c = 10 := by simpa using h
    rw [lines_nl]; rfl
  | c :: r, j + 1, h0, h => by
    have hc : c ≠ 10 := fun e => h0 0 (by omega) (by simp [e])
    have ih := lines_at r j (fun k hk => by have := h0 (k + 1) (by omega); simpa using this) (by simpa using h)
    rw [lines_cons r hc, ih]
    simp
theorem lines_end : ∀ (l : List UInt8), (∀ k : Nat, l[k]? ≠ some 10) → l ≠ [] → linesP l = [(l, false)]
  | [], _, h => absurd rfl h
  | c :: r, h, _ => by
    have hc : c ≠ 10 := fun e => h 0 (by simp [e])
    rw [lines_cons r hc]
    by_cases hr : r = []
    · subst hr; rfl
    · rw [lines_end r (fun k => by have := h (k + 1); simpa using this) hr]
theorem lines_len : ∀ l : List UInt8, (linesP l).length ≤ l.length
  | [] => Nat.le_refl _
  | c :: r => by
    have ih := lines_len r
    by_cases hc : c = 10
    · rw [hc, lines_nl]; simpa using ih
    · rw [lines_cons r hc]
      cases hr : linesP r with
      | nil => simp
      | cons x xs => rw [hr] at ih; simp only [List.length_cons] at ih ⊢; omega
theorem flat_size {α β : Type} (f : α → List β) : ∀ (l : List α), ∀ p ∈ l, (f p).length ≤ (l.flatMap f).length
  | [], p, hp => absurd hp (by simp)
  | x :: xs, p, hp => by
    rw [List.flatMap_cons, List.length_append]
    rcases List.mem_cons.1 hp with rfl | h
    · omega
    · have := flat_size f xs p h; omega
theorem lines_size (l : List UInt8) (p : List UInt8 × Bool) (hp : p ∈ linesP l) : (fullL p).length ≤ l.length := by
  have h := flat_size fullL (linesP l) p hp
  rwa [lines_full] at h
theorem full_len (p : List UInt8 × Bool) : p.1.length ≤ (fullL p).length := by unfold fullL; split <;> simp
def lineB (p : List UInt8 × Bool) : ByteArray := ⟨p.1.toArray⟩
def pieceB (p : List UInt8 × Bool) : ByteArray := ⟨(fullL p).toArray⟩
def linesB (s : ByteArray) : List ByteArray := (linesP (bl s)).map lineB
theorem lines_step {l : List UInt8} (h : Lib.indexByte l 10 = -1) (h0 : l ≠ []) : linesP l = [(l, false)] := lines_end l (Lib.indexByte_none h) h0
theorem lines_step1 {l : List UInt8} {o : Nat} (h : Lib.indexByte l 10 = o) : linesP l = (l.take o, true) :: linesP (l.drop (o + 1)) ∧ o < l.length ∧ l.take (o + 1) = l.take o ++ [10] := by
  obtain ⟨h1, h2⟩ := Lib.indexByte_some h
  obtain ⟨hlt, hv⟩ := List.getElem?_eq_some_iff.1 h1
  exact ⟨lines_at l o h2 h1, hlt, by rw [List.take_succ_eq_append_getElem hlt, hv]⟩
theorem lines_no : ∀ (l : List UInt8), ∀ p ∈ linesP l, (10 : UInt8) ∉ p.1 ∧ (p.2 = false → p.1 ≠ [])
  | [], p, hp => absurd hp (by simp [linesP])
  | c :: r, p, hp => by
    by_cases hc : c = 10
    · rw [hc, lines_nl] at hp
      rcases List.mem_cons.1 hp with rfl | h
      · exact ⟨by simp, fun h => by cases h⟩
      · exact lines_no r p h
    · rw [lines_cons r hc] at hp
      have ih := lines_no r
      cases hr : linesP r with
      | nil =>
        rw [hr] at hp
        obtain rfl := List.mem_singleton.1 hp
        exact ⟨by simpa using fun e => hc e.symm, fun _ => by simp⟩
      | cons x xs =>
        rw [hr] at hp ih
        rcases List.mem_cons.1 hp with rfl | h
        · have h1 := (ih x (by simp)).1
          exact ⟨fun h => by rcases List.mem_cons.1 h with e | e; exact hc e.symm; exact h1 e, fun _ => by simp⟩
        · exact ih p (by simp [h])
theorem lines_cut_of {l : List UInt8} {k : Nat} (h : k < (linesP l).length) : ((linesP l).getD k ([], false)).2 = true ∨ (((linesP l).getD k ([], false)).1 ≠ [] ∧ ((linesP l).getD k ([], false)).2 = false ∧ ∀ c, ((linesP l).getD k ([], false)).1.getLast? = some c → c ≠ 10) := by
  obtain ⟨h1, h2⟩ := lines_no l _ (List.getElem_mem h)
  rw [List.getD_eq_getElem?_getD, List.getElem?_eq_getElem h]
  show (linesP l)[k].2 = true ∨ _
  generalize (linesP l)[k] = p at *
  cases hp : p.2 with
  | true => exact .inl rfl
  | false =>
    refine .inr ⟨h2 hp, hp, fun c hc e => h1 ?_⟩
    subst e
    exact List.mem_of_getLast? hc
def joinN (l : List ByteArray) : List UInt8 := l.flatMap fun x => bl x ++ [10]
theorem linesB_size (s : ByteArray) : ∀ x ∈ linesB s, x.size ≤ s.size := fun x hx => by
  obtain ⟨p, hp, rfl⟩ := List.mem_map.1 hx
  have h1 := lines_size (bl s) p hp
  have h2 := full_len p
  rw [bl_len] at h1
  rw [← bl_len]
  show p.1.length ≤ s.size
  omega
end Go.Proofs.YtomhekohcadijaaGreatDoor
namespace Go.Proofs.YtomhekohcadijaaGreatDoor
open Go.RowKit Go.Shelf

set_option maxRecDepth 100000 in
set_option maxHeartbeats 2000000 in
theorem q_IndexFunc (va : Value) (l : List Qv) (w : World) (ha : SlA w 6 va l.length (l.flatMap Qv.cells)) (g : Nat) (cb : Array Value) (p : Qv → Bool)
    (eg : ∀ args w, (callFunc g args).run Tryz.prog w = .ok (.enter g args) w)
    (hp : ∀ x W, x ∈ l → Below w.heap.size w W → Calls Tryz.prog g (#[qv x] ++ cb) W fun e w' => e = .returned (.bool (p x)) ∧ Below W.heap.size W w') :
    Calls Tryz.prog 172 #[va, .func (.func g) #[] cb] w fun e w' => (∃ i : Int, e = .returned (.int .i64 i) ∧ l.any p = decide (0 ≤ i)) ∧ Below w.heap.size w w' := by
  have HP := Lib.hid hp
  have HA := Lib.hid ha
  have hmax := ha.max
  obtain ⟨ao, cap, hva⟩ := ha.form
  subst hva
  clear ha hp
  have HY := Lib.hid (fun k (hk : k < l.length) (h : p l[k] = true) => show l.any p = true from List.any_eq_true.2 ⟨l[k], List.getElem_mem hk, h⟩)
  have HN := Lib.hid (fun (h : ∀ j (hj : j < l.length), p l[j] = false) => show l.any p = false by
    rw [List.any_eq_false]
    intro x hx
    obtain ⟨j, hj, rfl⟩ := List.getElem_of_mem hx
    rw [h j hj]; exact Bool.false_ne_true)
  generalize l.any p = res at HY HN ⊢
  go_enter Tryz.func172, Tryz.ntmps172
  go_wp2
  go_loopw [8] (fun i wr => ∃ k : Nat, k ≤ l.length ∧ i = .int .i64 k ∧ Hid (Below w.heap.size w wr) ∧ Hid (∀ j (hj : j < l.length), j < k → p l[j] = false)) (fun i _ => l.length - (intOf i).toNat)
  case atStart => exact ⟨0, by omega, rfl, Lib.hid (Below.refl _ _), Lib.hid (fun _ _ h => absurd h (by omega))⟩
  case round =>
    obtain ⟨k, hk, rfl, HB, HJ⟩ := hrel
    by_cases hlt : k < l.length
    · obtain ⟨b1, o1, c1, he1, hc1, hm1, hb1, hx1⟩ := HA.out.pos (by omega)
      simp only [Value.slice.injEq, true_and] at he1
      obtain ⟨rfl, rfl⟩ := he1
      obtain ⟨p0, p1, p2, p3, p4, p5⟩ := q_cell (w := wr) (fun j u hu => (HB.out.cell (p := ⟨b1, o1 + j, none⟩) hb1).trans (hx1 j u hu)) k hlt
      have hbr : b1 < wr.heap.size := Nat.lt_of_lt_of_le hb1 HB.out.size
      have PC := Lib.hid (fun W h => HP.out l[k] W (List.getElem_mem hlt) h)
      have YES := Lib.hid (HY.out k hlt)
      have HJ2 : Hid (p l[k] = false → ∀ j (hj : j < l.length), j < k + 1 → p l[j] = false) := Lib.hid (fun hpk j hj hjk => by
        by_cases h : j < k
        · exact HJ.out j hj h
        · obtain rfl : j = k := by omega
          exact hpk)
      clear hx1
      generalize p l[k] = px at PC YES HJ2
      generalize l[k] = x at *
      obtain ⟨xk, ⟨x1, x2⟩, ⟨x3, x4⟩, xw⟩ := x
      go_wp2_with fail
      refine (PC.out _ HB.out).mono ?_
      rintro e w2 ⟨rfl, hb2⟩
      have HB2 := Lib.hid (HB.out.trans (hb2.mono HB.out.size))
      clear hb2
      cases px with
      | true =>
        have R := Lib.hid (YES.out rfl)
        go_wp2
        go_ret
        exact ⟨⟨(k : Int), rfl, by rw [R.out, decide_eq_true (Int.natCast_nonneg k)]⟩, HB2.out⟩
      | false =>
        have HJ3 := Lib.hid (HJ2.out rfl)
        go_wp2
        exact ⟨⟨k + 1, by omega, by go_num, HB2, HJ3⟩, by simp [intOf]; omega⟩
    · have R := Lib.hid (HN.out (fun j hj => HJ.out j hj (by omega)))
      go_wp2
      go_ret
      exact ⟨⟨-1, rfl, by rw [R.out]; rfl⟩, HB.out⟩
set_option maxHeartbeats 1000000 in
theorem q_ContainsFunc (va : Value) (l : List Qv) (w : World) (ha : SlA w 6 va l.length (l.flatMap Qv.cells)) (g : Nat) (cb : Array Value) (p : Qv → Bool)
    (eg : ∀ args w, (callFunc g args).run Tryz.prog w = .ok (.enter g args) w)
    (hp : ∀ x W, x ∈ l → Below w.heap.size w W → Calls Tryz.prog g (#[qv x] ++ cb) W fun e w' => e = .returned (.bool (p x)) ∧ Below W.heap.size W w') :
    Calls Tryz.prog 118 #[va, .func (.func g) #[] cb] w fun e w' => e = .returned (.bool (l.any p)) ∧ Below w.heap.size w w' := by
  have I := Lib.hid (q_IndexFunc va l w ha g cb p eg hp)
  generalize l.any p = res at I ⊢
  clear ha hp eg
  go_enter Tryz.func118, Tryz.ntmps118
  go_wp2_with fail
  refine I.out.mono ?_
  rintro e w1 ⟨⟨i, rfl, hi⟩, hb⟩
  have HI := Lib.hid hi
  have HB := Lib.hid hb
  clear hi hb
  go_wp2
  go_ret
  exact ⟨ret_b HI.out.symm, HB.out⟩
end Go.Proofs.YtomhekohcadijaaGreatDoor
