/- Plain laws of statements and their lines: what is parsed may be; what may be is parsed from its line. delta.Read in plain Lean: what lines are read as (printed by gen_dlread.py). crupperref05.Right: some bool comes back; if it is true, all statements may be. Plain laws of rows of texts in order, each once (printed by gen_strlaw.py out of RlHas, RlSort, RlLaw). Plain laws of tables: the place of a text, a role's number, a statement's rule. Texts sorted and compacted are the row of all texts in order, each once. names.New: the row of all texts, in order, each once. names.Table: Len, At, Find, All; binary search at texts. slices.BinarySearch at texts in order; names.Table.Find. table.Table: New, Prins, Links, Roles, Role. The reference's rows of texts, and numbers: crupperref01.Has, Put, New; crupperref06.Place, Role (printed by gen_reftab.py). -/
import Derived.Test.YtomhekohcadijaaGreatDoorPart10
import Derived.Test.YtomhekohcadijaaGreatDoorPart3
import Derived.Test.YtomhekohcadijaaGreatDoorPart7
import Derived.Test.YtomhekohcadijaaGreatDoorPart6
import Derived.Lib.SlicesCompact
import Derived.Lib.RowBridge
import Derived.Sort.Walk0
import Derived.Sort.EncStr
import Derived.Test.YtomhekohcadijaaGreatDoorShelf
import Derived.Sort.OwnSorted
import Derived.Sort.Grow
import Derived.Lib.OwnBridge
import Derived.Test.YtomhekohcadijaaGreatDoorPart5
namespace Go.Proofs.YtomhekohcadijaaGreatDoor

def okTok (t : Tok) : Prop := (t.kind = 1 → isP 65 90 t.text = true) ∧ (t.kind = 2 → isP 97 122 t.text = true)
theorem word_isP (lo hi : Int) (c : UInt8) (r : List UInt8) (hb : btw c.toNat lo hi = true) (ha : alnum c = true) (h8 : ¬ 8 < (wordOf (c :: r)).length) : isP lo hi (wordOf (c :: r)) = true := by
  have e : wordOf (c :: r) = c :: wordOf r := by simp [wordOf, List.takeWhile, ha]
  rw [e] at h8 ⊢
  have hall : (wordOf r).all alnum = true := by
    rw [List.all_eq_true]
    intro x hx
    exact List.all_eq_true.1 (List.all_takeWhile (p := alnum) (l := r)) x hx
  simp only [List.length_cons] at h8
  simp only [isP, hb, List.all_cons, ha, hall, List.length_cons, Bool.and_true, Bool.and_self, decide_eq_true_iff]
  omega
theorem ok_other (k : Int) (t : List UInt8) (p : Int) (h1 : ¬ k = 1) (h2 : ¬ k = 2) : okTok ⟨k, t, p⟩ := ⟨fun h => absurd h h1, fun h => absurd h h2⟩
theorem oneTok_cons (c : UInt8) (r : List UInt8) (p : Nat) : oneTok (c :: r) p =
    if c.toNat = 46 then ⟨3, [c], p + 1⟩ else if c.toNat = 38 then ⟨5, [c], p + 1⟩
    else if [60, 45].isPrefixOf (c :: r) then ⟨4, [60, 45], p + 1⟩
    else if btw c.toNat 65 90 then ⟨1, wordOf (c :: r), p + 1⟩ else if btw c.toNat 97 122 then ⟨2, wordOf (c :: r), p + 1⟩ else ⟨0, [c], p + 1⟩ := rfl
theorem oneTok_ok (l : List UInt8) (p : Nat) (h8 : ¬ 8 < (oneTok l p).text.length) : okTok (oneTok l p) := by
  match l, h8 with
  | [], _ => exact ok_other 0 _ _ (by decide) (by decide)
  | c :: r, h8 =>
    rw [oneTok_cons] at h8 ⊢
    by_cases h1 : c.toNat = 46
    · rw [if_pos h1]; exact ok_other 3 _ _ (by decide) (by decide)
    rw [if_neg h1] at h8 ⊢
    by_cases h2 : c.toNat = 38
    · rw [if_pos h2]; exact ok_other 5 _ _ (by decide) (by decide)
    rw [if_neg h2] at h8 ⊢
    by_cases h3 : [60, 45].isPrefixOf (c :: r) = true
    · rw [if_pos h3]; exact ok_other 4 _ _ (by decide) (by decide)
    rw [if_neg h3] at h8 ⊢
    by_cases h4 : btw c.toNat 65 90 = true
    · rw [if_pos h4] at h8 ⊢
      exact ⟨fun _ => word_isP 65 90 c r h4 (by simp [alnum, h4]) h8, fun h => absurd h (show ¬ (1 : Int) = 2 by decide)⟩
    rw [if_neg h4] at h8 ⊢
    by_cases h5 : btw c.toNat 97 122 = true
    · rw [if_pos h5] at h8 ⊢
      exact ⟨fun h => absurd h (show ¬ (2 : Int) = 1 by decide), fun _ => word_isP 97 122 c r h5 (by simp [alnum, h5]) h8⟩
    · rw [if_neg h5]; exact ok_other 0 _ _ (by decide) (by decide)
theorem toks_ok : ∀ (f : Nat) (l : List UInt8) (p : Nat) (acc : List Tok), (∀ t ∈ acc, okTok t) → ∀ t ∈ (toks f l p acc).1, okTok t
  | 0, l, p, acc, h => by
    have : toks 0 l p acc = (acc, 0, 0) := by unfold toks; rfl
    rw [this]; exact h
  | f + 1, [], p, acc, h => by rw [toks_nil]; exact h
  | f + 1, c :: r, p, acc, h => by
    by_cases hc : c.toNat = 32
    · rw [toks_space _ _ _ _ _ hc]; exact toks_ok f r (p + 1) acc h
    by_cases hk : (oneTok (c :: r) p).kind = 0
    · rw [toks_bad _ _ _ _ _ hc hk]; intro t ht; cases ht
    by_cases hl : 8 < (oneTok (c :: r) p).text.length
    · rw [toks_long _ _ _ _ _ hc hk hl]; intro t ht; cases ht
    · rw [toks_go _ _ _ _ _ hc hk hl]
      refine toks_ok f _ _ _ fun t ht => ?_
      rcases List.mem_append.1 ht with h' | h'
      · exact h t h'
      · rw [List.mem_singleton.1 h']; exact oneTok_ok _ _ hl
theorem tokens_ok (l : List UInt8) : ∀ t ∈ (tokens l).1, okTok t := by
  unfold tokens
  split
  · intro t ht; cases ht
  · exact toks_ok _ _ _ _ (fun t ht => by cases ht)

theorem right_normal (h : Rl) (a b : Rl) (hh : isRole h = true) (ha : isRole a = true) (hb : isRole b = true) : rightS (normalS ⟨4, h, emp, a, b, emp⟩) = true := by
  unfold normalS
  by_cases hl : lessR b a = true
  · rw [if_pos ⟨rfl, hl⟩]
    show rightS ⟨4, h, emp, b, a, emp⟩ = true
    rw [rightS4, hh, ha, hb, less_no hl, eqSt_self]; rfl
  · rw [if_neg (fun x => hl x.2), rightS4, hh, ha, hb, eqSt_self]
    simp only [Bool.not_eq_true] at hl
    rw [hl]; rfl
theorem fits_pos {t : Tok} {l : List Tok} {k : Int} {s : List Int} {n : Nat} (h : fitsS (t :: l) (k :: s) = n + 1) : t.kind = k ∧ fitsS l s = n := by
  rw [fits_cons] at h
  by_cases hk : t.kind = k
  · rw [if_pos hk] at h; exact ⟨hk, by omega⟩
  · rw [if_neg hk] at h; omega
theorem isRole_of {o n : Tok} {a b : ByteArray} (ho : okTok o) (hn : okTok n) (h1 : o.kind = 1) (h2 : n.kind = 2) (ea : bl a = o.text) (eb : bl b = n.text) : isRole ⟨a, b⟩ = true := by
  simp only [isRole, ea, eb, ho.1 h1, hn.2 h2]; rfl
theorem bl_mk (l : List UInt8) : bl ⟨l.toArray⟩ = l := by simp [bl]
theorem len5 {α : Type} {l : List α} (h : l.length = 5) : ∃ t0 t1 t2 t3 t4, l = [t0, t1, t2, t3, t4] := by
  match l, h with
  | [t0, t1, t2, t3, t4], _ => exact ⟨t0, t1, t2, t3, t4, rfl⟩
theorem len7 {α : Type} {l : List α} (h : l.length = 7) : ∃ t0 t1 t2 t3 t4 t5 t6, l = [t0, t1, t2, t3, t4, t5, t6] := by
  match l, h with
  | [t0, t1, t2, t3, t4, t5, t6], _ => exact ⟨t0, t1, t2, t3, t4, t5, t6, rfl⟩
theorem len9 {α : Type} {l : List α} (h : l.length = 9) : ∃ t0 t1 t2 t3 t4 t5 t6 t7 t8, l = [t0, t1, t2, t3, t4, t5, t6, t7, t8] := by
  match l, h with
  | [t0, t1, t2, t3, t4, t5, t6, t7, t8], _ => exact ⟨t0, t1, t2, t3, t4, t5, t6, t7, t8, rfl⟩
theorem len11 {α : Type} {l : List α} (h : l.length = 11) : ∃ t0 t1 t2 t3 t4 t5 t6 t7 t8 t9 t10, l = [t0, t1, t2, t3, t4, t5, t6, t7, t8, t9, t10] := by
  match l, h with
  | [t0, t1, t2, t3, t4, t5, t6, t7, t8, t9, t10], _ => exact ⟨t0, t1, t2, t3, t4, t5, t6, t7, t8, t9, t10, rfl⟩
theorem refS_right (l : List Tok) (e : Int) (ho : ∀ t ∈ l, okTok t) (h : (refS l e).2.2 = 0) : rightS (refS l e).1 = true := by
  unfold refS at h ⊢
  by_cases h1 : fitsS l sh1 = l.length ∧ fitsS l sh1 = 5
  · rw [if_pos h1]
    obtain ⟨a1, a2⟩ := h1
    obtain ⟨t0, t1, t2, t3, t4, rfl⟩ := len5 (a1.symm.trans a2)
    obtain ⟨k0, a2⟩ := fits_pos (n := 4) a2
    obtain ⟨k1, a2⟩ := fits_pos (n := 3) a2
    obtain ⟨k2, a2⟩ := fits_pos (n := 2) a2
    obtain ⟨k3, a2⟩ := fits_pos (n := 1) a2
    obtain ⟨k4, a2⟩ := fits_pos (n := 0) a2
    simp only [tx, List.getD_eq_getElem?_getD, List.getElem?_cons_zero, List.getElem?_cons_succ, Option.getD_some]
    rw [rightS1, isRole_of (ho t0 (by simp)) (ho t2 (by simp)) k0 k2 (bl_mk _) (bl_mk _), bl_mk, (ho t4 (by simp)).1 k4, eqSt_self]; rfl
  rw [if_neg h1] at h ⊢
  by_cases h2 : fitsS l sh2 = l.length ∧ fitsS l sh2 = 7
  · rw [if_pos h2]
    obtain ⟨a1, a2⟩ := h2
    obtain ⟨t0, t1, t2, t3, t4, t5, t6, rfl⟩ := len7 (a1.symm.trans a2)
    obtain ⟨k0, a2⟩ := fits_pos (n := 6) a2
    obtain ⟨k1, a2⟩ := fits_pos (n := 5) a2
    obtain ⟨k2, a2⟩ := fits_pos (n := 4) a2
    obtain ⟨k3, a2⟩ := fits_pos (n := 3) a2
    obtain ⟨k4, a2⟩ := fits_pos (n := 2) a2
    obtain ⟨k5, a2⟩ := fits_pos (n := 1) a2
    obtain ⟨k6, a2⟩ := fits_pos (n := 0) a2
    simp only [tx, List.getD_eq_getElem?_getD, List.getElem?_cons_zero, List.getElem?_cons_succ, Option.getD_some]
    rw [rightS2, isRole_of (ho t0 (by simp)) (ho t2 (by simp)) k0 k2 (bl_mk _) (bl_mk _), isRole_of (ho t4 (by simp)) (ho t6 (by simp)) k4 k6 (bl_mk _) (bl_mk _), eqSt_self]; rfl
  rw [if_neg h2] at h ⊢
  by_cases h3 : fitsS l sh3 = l.length ∧ fitsS l sh3 = 9
  · rw [if_pos h3]
    obtain ⟨a1, a2⟩ := h3
    obtain ⟨t0, t1, t2, t3, t4, t5, t6, t7, t8, rfl⟩ := len9 (a1.symm.trans a2)
    obtain ⟨k0, a2⟩ := fits_pos (n := 8) a2
    obtain ⟨k1, a2⟩ := fits_pos (n := 7) a2
    obtain ⟨k2, a2⟩ := fits_pos (n := 6) a2
    obtain ⟨k3, a2⟩ := fits_pos (n := 5) a2
    obtain ⟨k4, a2⟩ := fits_pos (n := 4) a2
    obtain ⟨k5, a2⟩ := fits_pos (n := 3) a2
    obtain ⟨k6, a2⟩ := fits_pos (n := 2) a2
    obtain ⟨k7, a2⟩ := fits_pos (n := 1) a2
    obtain ⟨k8, a2⟩ := fits_pos (n := 0) a2
    simp only [tx, List.getD_eq_getElem?_getD, List.getElem?_cons_zero, List.getElem?_cons_succ, Option.getD_some]
    rw [rightS3, isRole_of (ho t0 (by simp)) (ho t2 (by simp)) k0 k2 (bl_mk _) (bl_mk _), isRole_of (ho t4 (by simp)) (ho t6 (by simp)) k4 k6 (bl_mk _) (bl_mk _), bl_mk, (ho t8 (by simp)).2 k8, eqSt_self]; rfl
  rw [if_neg h3] at h ⊢
  by_cases h4 : fitsS l sh4 = l.length ∧ fitsS l sh4 = 11
  · rw [if_pos h4]
    obtain ⟨a1, a2⟩ := h4
    obtain ⟨t0, t1, t2, t3, t4, t5, t6, t7, t8, t9, t10, rfl⟩ := len11 (a1.symm.trans a2)
    obtain ⟨k0, a2⟩ := fits_pos (n := 10) a2
    obtain ⟨k1, a2⟩ := fits_pos (n := 9) a2
    obtain ⟨k2, a2⟩ := fits_pos (n := 8) a2
    obtain ⟨k3, a2⟩ := fits_pos (n := 7) a2
    obtain ⟨k4, a2⟩ := fits_pos (n := 6) a2
    obtain ⟨k5, a2⟩ := fits_pos (n := 5) a2
    obtain ⟨k6, a2⟩ := fits_pos (n := 4) a2
    obtain ⟨k7, a2⟩ := fits_pos (n := 3) a2
    obtain ⟨k8, a2⟩ := fits_pos (n := 2) a2
    obtain ⟨k9, a2⟩ := fits_pos (n := 1) a2
    obtain ⟨k10, a2⟩ := fits_pos (n := 0) a2
    simp only [tx, List.getD_eq_getElem?_getD, List.getElem?_cons_zero, List.getElem?_cons_succ, Option.getD_some]
    exact right_normal _ _ _ (isRole_of (ho t0 (by simp)) (ho t2 (by simp)) k0 k2 (bl_mk _) (bl_mk _)) (isRole_of (ho t4 (by simp)) (ho t6 (by simp)) k4 k6 (bl_mk _) (bl_mk _)) (isRole_of (ho t8 (by simp)) (ho t10 (by simp)) k8 k10 (bl_mk _) (bl_mk _))
  rw [if_neg h4] at h
  unfold refEnd at h
  split at h <;> cases h
theorem parse_right (s : ByteArray) (h : (parseS s).2.2 = 0) : rightS (parseS s).1 = true := by
  unfold parseS at h ⊢
  by_cases h0 : (tokens (bl s)).2.2 = 0
  · have e : parseT (tokens (bl s)) (endOf s) = refS (tokens (bl s)).1 (endOf s) := (parseT_good h0).trans (law_parse _ _)
    rw [e] at h ⊢
    exact refS_right _ _ (tokens_ok _) h
  · rw [parseT_bad h0] at h; exact absurd h h0

def stops (l : List UInt8) : Prop := ∀ c, l.head? = some c → alnum c = false
theorem wordOf_app (w r : List UInt8) (hw : w.all alnum = true) (hr : stops r) : wordOf (w ++ r) = w := by
  unfold wordOf
  rw [List.takeWhile_append_of_pos (by simpa using hw)]
  cases r with
  | nil => simp
  | cons c r =>
    have : alnum c = false := hr c rfl
    simp [List.takeWhile, this]
theorem btw_of {c : UInt8} {lo hi : Int} (h : btw c.toNat lo hi = true) : lo ≤ c.toNat ∧ (c.toNat : Int) ≤ hi := by simpa [btw] using h
theorem toks_big (w r : List UInt8) (f p : Nat) (acc : List Tok) (hw : isP 65 90 w = true) (hr : stops r) : toks (f + 1) (w ++ r) p acc = toks f r (p + w.length) (acc ++ [⟨1, w, p + 1⟩]) := by
  match w, hw with
  | c :: w, hw =>
    simp only [isP, Bool.and_eq_true, decide_eq_true_iff] at hw
    obtain ⟨⟨hl, hb⟩, ha⟩ := hw
    obtain ⟨b1, b2⟩ := btw_of hb
    have e : wordOf (c :: (w ++ r)) = c :: w := by rw [← List.cons_append]; exact wordOf_app _ _ ha hr
    have hp : ¬ [60, 45].isPrefixOf (c :: (w ++ r)) = true := by
      intro x
      have : (60 : UInt8) = c := by simp only [List.isPrefixOf, Bool.and_eq_true, beq_iff_eq] at x; exact x.1
      subst this; exact absurd b1 (by decide)
    have ht : oneTok (c :: (w ++ r)) p = ⟨1, c :: w, p + 1⟩ := by
      rw [oneTok_cons, if_neg (by omega), if_neg (by omega), if_neg hp, if_pos hb, e]
    rw [List.cons_append, toks_go _ _ _ _ _ (by omega) (by rw [ht]; exact (show ¬ (1 : Int) = 0 by decide)) (by rw [ht]; simp only [List.length_cons] at hl ⊢; omega), ht]
    rw [← List.cons_append]
    simp
theorem toks_small (w r : List UInt8) (f p : Nat) (acc : List Tok) (hw : isP 97 122 w = true) (hr : stops r) : toks (f + 1) (w ++ r) p acc = toks f r (p + w.length) (acc ++ [⟨2, w, p + 1⟩]) := by
  match w, hw with
  | c :: w, hw =>
    simp only [isP, Bool.and_eq_true, decide_eq_true_iff] at hw
    obtain ⟨⟨hl, hb⟩, ha⟩ := hw
    obtain ⟨b1, b2⟩ := btw_of hb
    have e : wordOf (c :: (w ++ r)) = c :: w := by rw [← List.cons_append]; exact wordOf_app _ _ ha hr
    have hp : ¬ [60, 45].isPrefixOf (c :: (w ++ r)) = true := by
      intro x
      have : (60 : UInt8) = c := by simp only [List.isPrefixOf, Bool.and_eq_true, beq_iff_eq] at x; exact x.1
      subst this; exact absurd b1 (by decide)
    have hb2 : ¬ btw c.toNat 65 90 = true := fun h => by have := (btw_of h).2; omega
    have ht : oneTok (c :: (w ++ r)) p = ⟨2, c :: w, p + 1⟩ := by
      rw [oneTok_cons, if_neg (by omega), if_neg (by omega), if_neg hp, if_neg hb2, if_pos hb, e]
    rw [List.cons_append, toks_go _ _ _ _ _ (by omega) (by rw [ht]; exact (show ¬ (2 : Int) = 0 by decide)) (by rw [ht]; simp only [List.length_cons] at hl ⊢; omega), ht]
    rw [← List.cons_append]
    simp
theorem toks_dot (r : List UInt8) (f p : Nat) (acc : List Tok) : toks (f + 1) (46 :: r) p acc = toks f r (p + 1) (acc ++ [⟨3, [46], p + 1⟩]) := by
  have ht : oneTok (46 :: r) p = ⟨3, [46], p + 1⟩ := rfl
  rw [toks_go _ _ _ _ _ (by decide) (by rw [ht]; exact (show ¬ (3 : Int) = 0 by decide)) (by rw [ht]; exact (show ¬ 8 < 1 by decide)), ht]; rfl
theorem toks_amp (r : List UInt8) (f p : Nat) (acc : List Tok) : toks (f + 1) (38 :: r) p acc = toks f r (p + 1) (acc ++ [⟨5, [38], p + 1⟩]) := by
  have ht : oneTok (38 :: r) p = ⟨5, [38], p + 1⟩ := rfl
  rw [toks_go _ _ _ _ _ (by decide) (by rw [ht]; exact (show ¬ (5 : Int) = 0 by decide)) (by rw [ht]; exact (show ¬ 8 < 1 by decide)), ht]; rfl
theorem toks_arrow (r : List UInt8) (f p : Nat) (acc : List Tok) : toks (f + 1) (60 :: 45 :: r) p acc = toks f r (p + 2) (acc ++ [⟨4, [60, 45], p + 1⟩]) := by
  have ht : oneTok (60 :: 45 :: r) p = ⟨4, [60, 45], p + 1⟩ := by simp [oneTok, List.isPrefixOf]
  rw [toks_go _ _ _ _ _ (by decide) (by rw [ht]; exact (show ¬ (4 : Int) = 0 by decide)) (by rw [ht]; exact (show ¬ 8 < 2 by decide)), ht]; rfl
theorem toks_blank (r : List UInt8) (f p : Nat) (acc : List Tok) : toks (f + 1) (32 :: r) p acc = toks f r (p + 1) acc := toks_space _ _ _ _ _ (by decide)
theorem stops_nil : stops [] := fun c h => by cases h
theorem stops_cons {c : UInt8} (r : List UInt8) (h : alnum c = false) : stops (c :: r) := fun d hd => by cases hd; exact h
theorem isP_len {lo hi : Int} {w : List UInt8} (h : isP lo hi w = true) : 1 ≤ w.length ∧ w.length ≤ 8 := by
  match w, h with
  | c :: w, h =>
    simp only [isP, Bool.and_eq_true, decide_eq_true_iff] at h
    exact ⟨by simp, h.1.1⟩
theorem isP_plain {lo hi : Int} {w : List UInt8} (h : isP lo hi w = true) : ∀ c ∈ w, ¬ c = 35 := by
  match w, h with
  | c :: w, h =>
    simp only [isP, Bool.and_eq_true, decide_eq_true_iff] at h
    intro x hx e
    have := List.all_eq_true.1 h.2 x hx
    rw [e] at this
    exact absurd this (by decide)
theorem bare_same {l : List UInt8} (h : ∀ c ∈ l, ¬ c = 35) : bare l = l := by
  unfold bare
  induction l with
  | nil => rfl
  | cons a r ih =>
    have ha : (!(a == 35)) = true := by simp [h a (by simp)]
    simp only [List.takeWhile, ha]
    rw [ih (fun c hc => h c (by simp [hc]))]
theorem parse_tokens {s : ByteArray} {l : List Tok} (h : tokens (bl s) = (l, 0, 0)) : parseS s = refS l (endOf s) := by
  unfold parseS
  rw [h]
  exact (parseT_good rfl).trans (law_parse _ _)
theorem isRole_iff (o n : ByteArray) : isRole ⟨o, n⟩ = true ↔ isP 65 90 (bl o) = true ∧ isP 97 122 (bl n) = true := by simp [isRole]
theorem norm_keep (h : Rl) (a b : Rl) (hl : lessR b a = false) : normalS ⟨4, h, emp, a, b, emp⟩ = ⟨4, h, emp, a, b, emp⟩ := by
  unfold normalS; rw [if_neg (fun x => by rw [hl] at x; cases x.2)]
theorem a46 : alnum 46 = false := by decide
theorem a32 : alnum 32 = false := by decide
set_option maxHeartbeats 2000000 in
theorem parse_print (s : St) (h : rightS s = true) : parseS (printS s) = (s, 0, 0) := by
  obtain ⟨k, ⟨h1, h2⟩, who, ⟨a1, a2⟩, ⟨b1, b2⟩, via⟩ := s
  have hr := h
  by_cases k1 : k = 1
  · subst k1
    rw [rightS1] at h
    simp only [Bool.and_eq_true, isRole_iff, eqSt, decide_eq_true_iff, St.mk.injEq, true_and] at h
    obtain ⟨⟨⟨ho, hn⟩, hw⟩, ea, eb, rfl⟩ := h
    obtain ⟨l1, l2⟩ := isP_len ho; obtain ⟨l3, l4⟩ := isP_len hn; obtain ⟨l5, l6⟩ := isP_len hw
    have hb : bl (printS ⟨1, ⟨h1, h2⟩, who, ⟨a1, a2⟩, ⟨b1, b2⟩, emp⟩) = bl h1 ++ 46 :: (bl h2 ++ 32 :: 60 :: 45 :: 32 :: (bl who ++ [])) := by
      unfold printS; rw [if_pos hr]; simp [roleT, bl]
    have ht : ∃ c1 c2 c3 c4 : Int, tokens (bl (printS ⟨1, ⟨h1, h2⟩, who, ⟨a1, a2⟩, ⟨b1, b2⟩, emp⟩)) = ([⟨1, bl h1, 0 + 1⟩, ⟨3, [46], c1⟩, ⟨2, bl h2, c2⟩, ⟨4, [60, 45], c3⟩, ⟨1, bl who, c4⟩], 0, 0) := by
      rw [hb]
      unfold tokens
      have hp : bare (bl h1 ++ 46 :: (bl h2 ++ 32 :: 60 :: 45 :: 32 :: (bl who ++ []))) = bl h1 ++ 46 :: (bl h2 ++ 32 :: 60 :: 45 :: 32 :: (bl who ++ [])) := by
        refine bare_same fun c hc => ?_
        simp only [List.mem_append, List.mem_cons, List.not_mem_nil, or_false] at hc
        rcases hc with hc | rfl | hc | rfl | rfl | rfl | rfl | hc <;> first | exact isP_plain ho c hc | exact isP_plain hn c hc | exact isP_plain hw c hc | decide
      rw [hp, if_neg (by simp only [List.length_append, List.length_cons, List.length_nil]; omega)]
      obtain ⟨x, hx⟩ : ∃ x, (bl h1 ++ 46 :: (bl h2 ++ 32 :: 60 :: 45 :: 32 :: (bl who ++ []))).length = x + 1 + 1 + 1 + 1 + 1 + 1 + 1 := ⟨(bl h1 ++ 46 :: (bl h2 ++ 32 :: 60 :: 45 :: 32 :: (bl who ++ []))).length - 7, by simp only [List.length_append, List.length_cons, List.length_nil]; omega⟩
      rw [hx, toks_big _ _ _ _ _ ho (stops_cons _ a46), toks_dot, toks_small _ _ _ _ _ hn (stops_cons _ a32), toks_blank, toks_arrow, toks_blank, toks_big _ _ _ _ _ hw stops_nil, toks_nil]
      exact ⟨_, _, _, _, rfl⟩
    obtain ⟨c1, c2, c3, c4, ht⟩ := ht
    rw [parse_tokens ht, ea, eb]
    simp [refS, fits_cons, fits_end, sh1, tx]
  by_cases k2 : k = 2
  · subst k2
    rw [rightS2] at h
    simp only [Bool.and_eq_true, isRole_iff, eqSt, decide_eq_true_iff, St.mk.injEq, true_and] at h
    obtain ⟨⟨⟨ho, hn⟩, ha, hc⟩, rfl, eb, rfl⟩ := h
    obtain ⟨l1, l2⟩ := isP_len ho; obtain ⟨l3, l4⟩ := isP_len hn; obtain ⟨l5, l6⟩ := isP_len ha; obtain ⟨l7, l8⟩ := isP_len hc
    have hb : bl (printS ⟨2, ⟨h1, h2⟩, emp, ⟨a1, a2⟩, ⟨b1, b2⟩, emp⟩) = bl h1 ++ 46 :: (bl h2 ++ 32 :: 60 :: 45 :: 32 :: (bl a1 ++ 46 :: (bl a2 ++ []))) := by
      unfold printS; rw [if_pos hr]; simp [roleT, bl]
    have ht : ∃ c1 c2 c3 c4 c5 c6 : Int, tokens (bl (printS ⟨2, ⟨h1, h2⟩, emp, ⟨a1, a2⟩, ⟨b1, b2⟩, emp⟩)) = ([⟨1, bl h1, 0 + 1⟩, ⟨3, [46], c1⟩, ⟨2, bl h2, c2⟩, ⟨4, [60, 45], c3⟩, ⟨1, bl a1, c4⟩, ⟨3, [46], c5⟩, ⟨2, bl a2, c6⟩], 0, 0) := by
      rw [hb]
      unfold tokens
      have hp : bare (bl h1 ++ 46 :: (bl h2 ++ 32 :: 60 :: 45 :: 32 :: (bl a1 ++ 46 :: (bl a2 ++ [])))) = bl h1 ++ 46 :: (bl h2 ++ 32 :: 60 :: 45 :: 32 :: (bl a1 ++ 46 :: (bl a2 ++ []))) := by
        refine bare_same fun c hc' => ?_
        simp only [List.mem_append, List.mem_cons, List.not_mem_nil, or_false] at hc'
        rcases hc' with hc' | rfl | hc' | rfl | rfl | rfl | rfl | hc' | rfl | hc' <;> first | exact isP_plain ho c hc' | exact isP_plain hn c hc' | exact isP_plain ha c hc' | exact isP_plain hc c hc' | decide
      rw [hp, if_neg (by simp only [List.length_append, List.length_cons, List.length_nil]; omega)]
      obtain ⟨x, hx⟩ : ∃ x, (bl h1 ++ 46 :: (bl h2 ++ 32 :: 60 :: 45 :: 32 :: (bl a1 ++ 46 :: (bl a2 ++ [])))).length = x + 1 + 1 + 1 + 1 + 1 + 1 + 1 + 1 + 1 := ⟨(bl h1 ++ 46 :: (bl h2 ++ 32 :: 60 :: 45 :: 32 :: (bl a1 ++ 46 :: (bl a2 ++ [])))).length - 9, by simp only [List.length_append, List.length_cons, List.length_nil]; omega⟩
      rw [hx, toks_big _ _ _ _ _ ho (stops_cons _ a46), toks_dot, toks_small _ _ _ _ _ hn (stops_cons _ a32), toks_blank, toks_arrow, toks_blank, toks_big _ _ _ _ _ ha (stops_cons _ a46), toks_dot, toks_small _ _ _ _ _ hc stops_nil, toks_nil]
      exact ⟨_, _, _, _, _, _, rfl⟩
    obtain ⟨c1, c2, c3, c4, c5, c6, ht⟩ := ht
    rw [parse_tokens ht, eb]
    simp [refS, fits_cons, fits_end, sh1, sh2, tx]
  by_cases k3 : k = 3
  · subst k3
    rw [rightS3] at h
    simp only [Bool.and_eq_true, isRole_iff, eqSt, decide_eq_true_iff, St.mk.injEq, true_and, and_true] at h
    obtain ⟨⟨⟨⟨ho, hn⟩, ha, hc⟩, hv⟩, rfl, eb⟩ := h
    obtain ⟨l1, l2⟩ := isP_len ho; obtain ⟨l3, l4⟩ := isP_len hn; obtain ⟨l5, l6⟩ := isP_len ha; obtain ⟨l7, l8⟩ := isP_len hc; obtain ⟨l9, l10⟩ := isP_len hv
    have hb : bl (printS ⟨3, ⟨h1, h2⟩, emp, ⟨a1, a2⟩, ⟨b1, b2⟩, via⟩) = bl h1 ++ 46 :: (bl h2 ++ 32 :: 60 :: 45 :: 32 :: (bl a1 ++ 46 :: (bl a2 ++ 46 :: (bl via ++ [])))) := by
      unfold printS; rw [if_pos hr]; simp [roleT, bl]
    have ht : ∃ c1 c2 c3 c4 c5 c6 c7 c8 : Int, tokens (bl (printS ⟨3, ⟨h1, h2⟩, emp, ⟨a1, a2⟩, ⟨b1, b2⟩, via⟩)) = ([⟨1, bl h1, 0 + 1⟩, ⟨3, [46], c1⟩, ⟨2, bl h2, c2⟩, ⟨4, [60, 45], c3⟩, ⟨1, bl a1, c4⟩, ⟨3, [46], c5⟩, ⟨2, bl a2, c6⟩, ⟨3, [46], c7⟩, ⟨2, bl via, c8⟩], 0, 0) := by
      rw [hb]
      unfold tokens
      have hp : bare (bl h1 ++ 46 :: (bl h2 ++ 32 :: 60 :: 45 :: 32 :: (bl a1 ++ 46 :: (bl a2 ++ 46 :: (bl via ++ []))))) = bl h1 ++ 46 :: (bl h2 ++ 32 :: 60 :: 45 :: 32 :: (bl a1 ++ 46 :: (bl a2 ++ 46 :: (bl via ++ [])))) := by
        refine bare_same fun c hc' => ?_
        simp only [List.mem_append, List.mem_cons, List.not_mem_nil, or_false] at hc'
        rcases hc' with hc' | rfl | hc' | rfl | rfl | rfl | rfl | hc' | rfl | hc' | rfl | hc' <;> first | exact isP_plain ho c hc' | exact isP_plain hn c hc' | exact isP_plain ha c hc' | exact isP_plain hc c hc' | exact isP_plain hv c hc' | decide
      rw [hp, if_neg (by simp only [List.length_append, List.length_cons, List.length_nil]; omega)]
      obtain ⟨x, hx⟩ : ∃ x, (bl h1 ++ 46 :: (bl h2 ++ 32 :: 60 :: 45 :: 32 :: (bl a1 ++ 46 :: (bl a2 ++ 46 :: (bl via ++ []))))).length = x + 1 + 1 + 1 + 1 + 1 + 1 + 1 + 1 + 1 + 1 + 1 := ⟨(bl h1 ++ 46 :: (bl h2 ++ 32 :: 60 :: 45 :: 32 :: (bl a1 ++ 46 :: (bl a2 ++ 46 :: (bl via ++ []))))).length - 11, by simp only [List.length_append, List.length_cons, List.length_nil]; omega⟩
      rw [hx, toks_big _ _ _ _ _ ho (stops_cons _ a46), toks_dot, toks_small _ _ _ _ _ hn (stops_cons _ a32), toks_blank, toks_arrow, toks_blank, toks_big _ _ _ _ _ ha (stops_cons _ a46), toks_dot, toks_small _ _ _ _ _ hc (stops_cons _ a46), toks_dot, toks_small _ _ _ _ _ hv stops_nil, toks_nil]
      exact ⟨_, _, _, _, _, _, _, _, rfl⟩
    obtain ⟨c1, c2, c3, c4, c5, c6, c7, c8, ht⟩ := ht
    rw [parse_tokens ht, eb]
    simp [refS, fits_cons, fits_end, sh1, sh2, sh3, tx]
  by_cases k4 : k = 4
  · subst k4
    rw [rightS4] at h
    simp only [Bool.and_eq_true, isRole_iff, eqSt, decide_eq_true_iff, St.mk.injEq, true_and, Bool.not_eq_true'] at h
    obtain ⟨⟨⟨⟨⟨ho, hn⟩, ha, hc⟩, hd, he⟩, hl⟩, rfl, rfl⟩ := h
    obtain ⟨l1, l2⟩ := isP_len ho; obtain ⟨l3, l4⟩ := isP_len hn; obtain ⟨l5, l6⟩ := isP_len ha; obtain ⟨l7, l8⟩ := isP_len hc; obtain ⟨l9, l10⟩ := isP_len hd; obtain ⟨l11, l12⟩ := isP_len he
    have hb : bl (printS ⟨4, ⟨h1, h2⟩, emp, ⟨a1, a2⟩, ⟨b1, b2⟩, emp⟩) = bl h1 ++ 46 :: (bl h2 ++ 32 :: 60 :: 45 :: 32 :: (bl a1 ++ 46 :: (bl a2 ++ 32 :: 38 :: 32 :: (bl b1 ++ 46 :: (bl b2 ++ []))))) := by
      unfold printS; rw [if_pos hr]; simp [roleT, bl]
    have ht : ∃ c1 c2 c3 c4 c5 c6 c7 c8 c9 c10 : Int, tokens (bl (printS ⟨4, ⟨h1, h2⟩, emp, ⟨a1, a2⟩, ⟨b1, b2⟩, emp⟩)) = ([⟨1, bl h1, 0 + 1⟩, ⟨3, [46], c1⟩, ⟨2, bl h2, c2⟩, ⟨4, [60, 45], c3⟩, ⟨1, bl a1, c4⟩, ⟨3, [46], c5⟩, ⟨2, bl a2, c6⟩, ⟨5, [38], c7⟩, ⟨1, bl b1, c8⟩, ⟨3, [46], c9⟩, ⟨2, bl b2, c10⟩], 0, 0) := by
      rw [hb]
      unfold tokens
      have hp : bare (bl h1 ++ 46 :: (bl h2 ++ 32 :: 60 :: 45 :: 32 :: (bl a1 ++ 46 :: (bl a2 ++ 32 :: 38 :: 32 :: (bl b1 ++ 46 :: (bl b2 ++ [])))))) = bl h1 ++ 46 :: (bl h2 ++ 32 :: 60 :: 45 :: 32 :: (bl a1 ++ 46 :: (bl a2 ++ 32 :: 38 :: 32 :: (bl b1 ++ 46 :: (bl b2 ++ []))))) := by
        refine bare_same fun c hc' => ?_
        simp only [List.mem_append, List.mem_cons, List.not_mem_nil, or_false] at hc'
        rcases hc' with hc' | rfl | hc' | rfl | rfl | rfl | rfl | hc' | rfl | hc' | rfl | rfl | rfl | hc' | rfl | hc' <;> first | exact isP_plain ho c hc' | exact isP_plain hn c hc' | exact isP_plain ha c hc' | exact isP_plain hc c hc' | exact isP_plain hd c hc' | exact isP_plain he c hc' | decide
      rw [hp, if_neg (by simp only [List.length_append, List.length_cons, List.length_nil]; omega)]
      obtain ⟨x, hx⟩ : ∃ x, (bl h1 ++ 46 :: (bl h2 ++ 32 :: 60 :: 45 :: 32 :: (bl a1 ++ 46 :: (bl a2 ++ 32 :: 38 :: 32 :: (bl b1 ++ 46 :: (bl b2 ++ [])))))).length = x + 1 + 1 + 1 + 1 + 1 + 1 + 1 + 1 + 1 + 1 + 1 + 1 + 1 + 1 + 1 := ⟨(bl h1 ++ 46 :: (bl h2 ++ 32 :: 60 :: 45 :: 32 :: (bl a1 ++ 46 :: (bl a2 ++ 32 :: 38 :: 32 :: (bl b1 ++ 46 :: (bl b2 ++ [])))))).length - 15, by simp only [List.length_append, List.length_cons, List.length_nil]; omega⟩
      rw [hx, toks_big _ _ _ _ _ ho (stops_cons _ a46), toks_dot, toks_small _ _ _ _ _ hn (stops_cons _ a32), toks_blank, toks_arrow, toks_blank, toks_big _ _ _ _ _ ha (stops_cons _ a46), toks_dot, toks_small _ _ _ _ _ hc (stops_cons _ a32), toks_blank, toks_amp, toks_blank, toks_big _ _ _ _ _ hd (stops_cons _ a46), toks_dot, toks_small _ _ _ _ _ he stops_nil, toks_nil]
      exact ⟨_, _, _, _, _, _, _, _, _, _, rfl⟩
    obtain ⟨c1, c2, c3, c4, c5, c6, c7, c8, c9, c10, ht⟩ := ht
    rw [parse_tokens ht]
    have hk := norm_keep ⟨h1, h2⟩ ⟨a1, a2⟩ ⟨b1, b2⟩ hl
    simp [refS, fits_cons, fits_end, sh1, sh2, sh3, sh4, tx, hk]
  rw [rightS0 _ _ _ _ _ _ k1 k2 k3 k4] at hr
  cases hr
end Go.Proofs.YtomhekohcadijaaGreatDoor
namespace Go.Proofs.YtomhekohcadijaaGreatDoor
open Go.RowKit Go.Shelf

theorem index_dot : ∀ (a b : List UInt8), (∀ c ∈ a, ¬ c = 46) → Lib.index (a ++ 46 :: b) [46] = (a.length : Int)
  | [], b, _ => by simp [Lib.index, List.isPrefixOf]
  | c :: a, b, h => by
    have hc : ¬ c = 46 := h c (by simp)
    have h1 : ([46].isPrefixOf (c :: (a ++ 46 :: b))) = false := by simp [List.isPrefixOf, Ne.symm hc]
    have ih := index_dot a b (fun d hd => h d (by simp [hd]))
    rw [List.cons_append]
    simp only [Lib.index, h1, ih]
    have h3 : ((a.length : Int) == -1) = false := by rw [beq_eq_false_iff_ne]; omega
    rw [h3]
    simp
theorem index_no : ∀ (a : List UInt8), (∀ c ∈ a, ¬ c = 46) → Lib.index a [46] = -1
  | [], _ => by simp [Lib.index]
  | c :: a, h => by
    have hc : ¬ c = 46 := h c (by simp)
    have h1 : ([46].isPrefixOf (c :: a)) = false := by simp [List.isPrefixOf, Ne.symm hc]
    have ih := index_no a (fun d hd => h d (by simp [hd]))
    simp only [Lib.index, h1, ih]
    rfl
theorem cut_dot (a b : List UInt8) (h : ∀ c ∈ a, ¬ c = 46) : Lib.cut (a ++ 46 :: b) [46] = (a, b, true) := by
  unfold Lib.cut
  rw [index_dot a b h, if_pos (by omega)]
  simp
theorem cut_no (a : List UInt8) (h : ∀ c ∈ a, ¬ c = 46) : Lib.cut a [46] = (a, [], false) := by
  unfold Lib.cut
  rw [index_no a h, if_neg (by decide)]
theorem dot_split : ∀ (l : List UInt8), (∀ c ∈ l, ¬ c = 46) ∨ ∃ a b, l = a ++ 46 :: b ∧ ∀ c ∈ a, ¬ c = 46
  | [] => .inl (by simp)
  | c :: l => by
    by_cases hc : c = 46
    · exact .inr ⟨[], l, by rw [hc]; rfl, by simp⟩
    · rcases dot_split l with h | ⟨a, b, e, h⟩
      · exact .inl (fun d hd => (List.mem_cons.1 hd).elim (fun e => e ▸ hc) (h d))
      · exact .inr ⟨c :: a, b, by rw [e]; rfl, fun d hd => (List.mem_cons.1 hd).elim (fun e => e ▸ hc) (h d)⟩
def cutR (s : ByteArray) : Rl := ⟨⟨(Lib.cut (bl s) [46]).1.toArray⟩, ⟨(Lib.cut (bl s) [46]).2.1.toArray⟩⟩
theorem isP_dot {lo hi : Int} {w : List UInt8} (h : isP lo hi w = true) : ∀ c ∈ w, ¬ c = 46 := by
  match w, h with
  | c :: w, h =>
    simp only [isP, Bool.and_eq_true, decide_eq_true_iff] at h
    intro x hx e
    have := List.all_eq_true.1 h.2 x hx
    rw [e] at this
    exact absurd this (by decide)
theorem cutR_role {r : Rl} (h : isRole r = true) : cutR (roleT r) = r := by
  obtain ⟨o, n⟩ := r
  unfold isRole at h
  rw [Bool.and_eq_true] at h
  unfold cutR roleT
  have e : bl (o ++ ⟨#[46]⟩ ++ n) = bl o ++ 46 :: bl n := by rw [bl_append, bl_append, show bl (⟨#[46]⟩ : ByteArray) = [46] from rfl]; simp
  rw [e, cut_dot _ _ (isP_dot h.1)]
theorem roleT_cut {s : ByteArray} (h : isRole (cutR s) = true) : roleT (cutR s) = s := by
  refine bl_inj.1 ?_
  rcases dot_split (bl s) with hn | ⟨a, b, e, ha⟩
  · exfalso
    unfold isRole cutR at h
    rw [cut_no _ hn, Bool.and_eq_true] at h
    have h2 : isP 97 122 [] = true := h.2
    exact absurd h2 (by decide)
  · unfold roleT cutR
    rw [e, cut_dot _ _ ha, bl_append, bl_append, bl_mk, bl_mk]
    simp
def behS (l : List St) (x : St) : Bool := if h : 0 < l.length then decide (cmpSt (l[l.length - 1]'(by omega)) x < 0) else true
def behR (l : List Rl) (x : Rl) : Bool := if h : 0 < l.length then decide (cmpR (l[l.length - 1]'(by omega)) x < 0) else true
def okLnS (l : List St) (t : ByteArray) : Bool := decide ((parseS t).2.2 = 0) && (decide (printS (parseS t).1 = t) && behS l (parseS t).1)
def okLnR (l : List Rl) (t : ByteArray) : Bool := isRole (cutR t) && behR l (cutR t)
theorem last_split {α : Type} (l : List α) (h : 0 < l.length) : ∃ m, l = m ++ [l[l.length - 1]'(by omega)] := by
  refine ⟨l.dropLast, ?_⟩
  have hne : l ≠ [] := fun e => by rw [e] at h; simp at h
  rw [← List.getLast_eq_getElem hne]
  exact (List.dropLast_concat_getLast hne).symm
theorem asc_snocS {l : List St} {x : St} (h : Asc l) (hb : behS l x = true) : Asc (l ++ [x]) := by
  unfold behS at hb
  by_cases h0 : 0 < l.length
  · rw [dif_pos h0] at hb
    have hb := of_decide_eq_true hb
    obtain ⟨m, hm⟩ := last_split l h0
    generalize l[l.length - 1]'(by omega) = y at hb hm
    refine List.pairwise_append.2 ⟨h, List.pairwise_singleton _ _, fun a ha b hb' => ?_⟩
    rw [List.mem_singleton.1 hb']
    rw [hm] at h ha
    rcases List.mem_append.1 ha with ha | ha
    · exact lt_trans' ((List.pairwise_append.1 h).2.2 a ha y (by simp)) hb
    · rw [List.mem_singleton.1 ha]; exact hb
  · have : l = [] := List.eq_nil_of_length_eq_zero (by omega)
    subst this
    exact List.pairwise_singleton _ _
theorem asc_snocR {l : List Rl} {x : Rl} (h : AscR l) (hb : behR l x = true) : AscR (l ++ [x]) := by
  unfold behR at hb
  by_cases h0 : 0 < l.length
  · rw [dif_pos h0] at hb
    have hb := of_decide_eq_true hb
    obtain ⟨m, hm⟩ := last_split l h0
    generalize l[l.length - 1]'(by omega) = y at hb hm
    refine List.pairwise_append.2 ⟨h, List.pairwise_singleton _ _, fun a ha b hb' => ?_⟩
    rw [List.mem_singleton.1 hb']
    rw [hm] at h ha
    rcases List.mem_append.1 ha with ha | ha
    · exact lt_trans'R ((List.pairwise_append.1 h).2.2 a ha y (by simp)) hb
    · rw [List.mem_singleton.1 ha]; exact hb
  · have : l = [] := List.eq_nil_of_length_eq_zero (by omega)
    subst this
    exact List.pairwise_singleton _ _
theorem beh_ascS {l : List St} {x : St} (h : Asc (l ++ [x])) : behS l x = true := by
  unfold behS
  by_cases h0 : 0 < l.length
  · rw [dif_pos h0]
    exact decide_eq_true ((List.pairwise_append.1 h).2.2 _ (List.getElem_mem _) x (by simp))
  · rw [dif_neg h0]
theorem beh_ascR {l : List Rl} {x : Rl} (h : AscR (l ++ [x])) : behR l x = true := by
  unfold behR
  by_cases h0 : 0 < l.length
  · rw [dif_pos h0]
    exact decide_eq_true ((List.pairwise_append.1 h).2.2 _ (List.getElem_mem _) x (by simp))
  · rw [dif_neg h0]
def noDl : Dl := ⟨[], [], [], [], [], []⟩
def stepD (d : Dl) (last : Int) (s : ByteArray) : Option Dl :=
  if (kindB s).1 < last then none
  else if (kindB s).1 = 0 then (if okLnS d.gone (kindB s).2 = true then some { d with gone := d.gone ++ [(parseS (kindB s).2).1] } else none)
  else if (kindB s).1 = 1 then (if okLnS d.more (kindB s).2 = true then some { d with more := d.more ++ [(parseS (kindB s).2).1] } else none)
  else if (kindB s).1 = 2 then (if okLnR d.ungrow (kindB s).2 = true then some { d with ungrow := d.ungrow ++ [(cutR (kindB s).2)] } else none)
  else if (kindB s).1 = 3 then (if okLnR d.grow (kindB s).2 = true then some { d with grow := d.grow ++ [(cutR (kindB s).2)] } else none)
  else if (kindB s).1 = 4 then (if okLnR d.unshrink (kindB s).2 = true then some { d with unshrink := d.unshrink ++ [(cutR (kindB s).2)] } else none)
  else (if okLnR d.shrink (kindB s).2 = true then some { d with shrink := d.shrink ++ [(cutR (kindB s).2)] } else none)
def goD (d : Dl) (last : Int) (i : Nat) : List ByteArray → Dl × Int
  | [] => (d, 0)
  | s :: r => match stepD d last s with
    | none => (noDl, (i : Int) + 1)
    | some d' => goD d' (kindB s).1 (i + 1) r
def readD (l : List ByteArray) : Dl × Int := goD noDl 0 0 l
theorem goD_bad {d : Dl} {last : Int} {i : Nat} {s : ByteArray} {r : List ByteArray} (h : stepD d last s = none) : goD d last i (s :: r) = (noDl, (i : Int) + 1) := by
  show (match stepD d last s with | none => (noDl, (i : Int) + 1) | some d' => goD d' (kindB s).1 (i + 1) r) = _
  rw [h]
theorem goD_go {d d' : Dl} {last : Int} {i : Nat} {s : ByteArray} {r : List ByteArray} (h : stepD d last s = some d') : goD d last i (s :: r) = goD d' (kindB s).1 (i + 1) r := by
  show (match stepD d last s with | none => (noDl, (i : Int) + 1) | some d' => goD d' (kindB s).1 (i + 1) r) = _
  rw [h]
theorem goD_wrong : ∀ (l : List ByteArray) (d : Dl) (last : Int) (i : Nat), (goD d last i l).2 = 0 ∨ (goD d last i l).1 = noDl ∧ ∃ k, k < l.length ∧ (goD d last i l).2 = (i : Int) + k + 1 ∧ (goD d last i (l.take k)).2 = 0
  | [], d, last, i => .inl rfl
  | s :: r, d, last, i => by
    cases h : stepD d last s with
    | none =>
      rw [goD_bad h]
      exact .inr ⟨rfl, 0, by simp, by simp, rfl⟩
    | some d' =>
      rw [goD_go h]
      rcases goD_wrong r d' (kindB s).1 (i + 1) with e | ⟨e, k, hk, h1, h2⟩
      · exact .inl e
      · refine .inr ⟨e, k + 1, by simp; omega, by rw [h1]; omega, ?_⟩
        rw [List.take_succ_cons, goD_go h]
        exact h2
theorem readD_wrong (l : List ByteArray) : (readD l).2 = 0 ∨ (readD l).1 = noDl ∧ ∃ k, k < l.length ∧ (readD l).2 = (k : Int) + 1 ∧ (readD (l.take k)).2 = 0 := by
  rcases goD_wrong l noDl 0 0 with h | ⟨h1, k, h2, h3, h4⟩
  · exact .inl h
  · exact .inr ⟨h1, k, h2, by unfold readD; rw [h3]; simp, h4⟩
theorem preB_cut {s m : ByteArray} (h : preB s m = true) : s = m ++ s.extract m.size s.size := by
  have hl := preB_le h
  unfold preB Lib.hasPrefix at h
  obtain ⟨t, ht⟩ := List.isPrefixOf_iff_prefix.1 h
  refine bl_inj.1 ?_
  rw [bl_append, bl_extract]
  have e1 : bl s = bl m ++ t := ht.symm
  have e2 : s.size = (bl s).length := (bl_len s).symm
  rw [e2, List.take_length, e1, ← bl_len m]
  simp
def mkN : Nat → ByteArray
  | 0 => mk0 | 1 => mk1 | 2 => mk2 | 3 => mk3 | 4 => mk4 | _ => mk5
theorem kindL_split (s : ByteArray) : ∀ (L : List (Nat × ByteArray)), (∀ x ∈ L, x.2 = mkN x.1 ∧ x.1 < 6) → kindL s L = (-1, emp) ∨ ∃ j : Nat, j < 6 ∧ (kindL s L).1 = j ∧ s = mkN j ++ (kindL s L).2
  | [], _ => .inl rfl
  | x :: r, h => by
    by_cases hx : preB s x.2 = true
    · have e : kindL s (x :: r) = ((x.1 : Int), s.extract x.2.size s.size) := if_pos hx
      rw [e]
      exact .inr ⟨x.1, (h x (by simp)).2, rfl, by rw [← (h x (by simp)).1]; exact preB_cut hx⟩
    · have e : kindL s (x :: r) = kindL s r := if_neg hx
      rw [e]
      exact kindL_split s r (fun y hy => h y (by simp [hy]))
theorem kind_split (s : ByteArray) : kindB s = (-1, emp) ∨ ∃ j : Nat, j < 6 ∧ (kindB s).1 = j ∧ s = mkN j ++ (kindB s).2 :=
  kindL_split s _ (by
    have e : bkL marksB 6 = [(5, mk5), (4, mk4), (3, mk3), (2, mk2), (1, mk1), (0, mk0)] := rfl
    rw [e]
    intro x hx
    simp only [List.mem_cons, List.not_mem_nil, or_false] at hx
    rcases hx with rfl | rfl | rfl | rfl | rfl | rfl <;> exact ⟨rfl, by decide⟩)
structure InvD (d : Dl) (last : Int) (p : List ByteArray) : Prop where
  l : d.lines = p
  a_more : Asc d.more
  a_gone : Asc d.gone
  a_grow : AscR d.grow
  a_ungrow : AscR d.ungrow
  a_shrink : AscR d.shrink
  a_unshrink : AscR d.unshrink
  e1 : last < 1 → d.more = []
  e2 : last < 2 → d.ungrow = []
  e3 : last < 3 → d.grow = []
  e4 : last < 4 → d.unshrink = []
  e5 : last < 5 → d.shrink = []
  nn : 0 ≤ last
theorem inv_no : InvD noDl 0 [] := ⟨rfl, List.Pairwise.nil, List.Pairwise.nil, List.Pairwise.nil, List.Pairwise.nil, List.Pairwise.nil, List.Pairwise.nil, fun _ => rfl, fun _ => rfl, fun _ => rfl, fun _ => rfl, fun _ => rfl, Int.le_refl _⟩
theorem okLnS_iff {l : List St} {t : ByteArray} : okLnS l t = true ↔ (parseS t).2.2 = 0 ∧ printS (parseS t).1 = t ∧ behS l (parseS t).1 = true := by
  unfold okLnS; simp only [Bool.and_eq_true, decide_eq_true_eq]
theorem okLnR_iff {l : List Rl} {t : ByteArray} : okLnR l t = true ↔ isRole (cutR t) = true ∧ behR l (cutR t) = true := by
  unfold okLnR; rw [Bool.and_eq_true]
theorem inv_step {d d' : Dl} {last : Int} {s : ByteArray} {p : List ByteArray} (H : InvD d last p) (h : stepD d last s = some d') : InvD d' (kindB s).1 (p ++ [s]) := by
  have hnn := H.nn
  unfold stepD at h
  rcases kind_split s with hk | ⟨j, hj, hk, hs⟩
  · rw [hk, if_pos (show (-1 : Int) < last by omega)] at h
    cases h
  generalize (kindB s).2 = t at h hs
  rw [hk] at h ⊢
  clear hk
  by_cases hl : (j : Int) < last
  · rw [if_pos hl] at h; cases h
  rw [if_neg hl] at h
  by_cases hj0 : j = 0
  · subst hj0
    rw [if_pos (show ((0 : Nat) : Int) = 0 by decide)] at h
    by_cases hok : okLnS d.gone t = true
    · rw [if_pos hok] at h
      cases h
      obtain ⟨_, h2, h3⟩ := okLnS_iff.1 hok
      have hs2 : s = mk0 ++ printS (parseS t).1 := by rw [h2]; exact hs
      refine ⟨?_, H.a_more, asc_snocS H.a_gone h3, H.a_grow, H.a_ungrow, H.a_shrink, H.a_unshrink, fun _ => H.e1 (by omega), fun _ => H.e2 (by omega), fun _ => H.e3 (by omega), fun _ => H.e4 (by omega), fun _ => H.e5 (by omega), by decide⟩
      rw [← H.l, hs2]
      unfold Dl.lines
      simp [lnS, lnR, H.e1 (by omega), H.e2 (by omega), H.e3 (by omega), H.e4 (by omega), H.e5 (by omega)]
    · rw [if_neg hok] at h; cases h
  by_cases hj1 : j = 1
  · subst hj1
    rw [if_neg (show ¬ ((1 : Nat) : Int) = 0 by decide)] at h
    rw [if_pos (show ((1 : Nat) : Int) = 1 by decide)] at h
    by_cases hok : okLnS d.more t = true
    · rw [if_pos hok] at h
      cases h
      obtain ⟨_, h2, h3⟩ := okLnS_iff.1 hok
      have hs2 : s = mk1 ++ printS (parseS t).1 := by rw [h2]; exact hs
      refine ⟨?_, asc_snocS H.a_more h3, H.a_gone, H.a_grow, H.a_ungrow, H.a_shrink, H.a_unshrink, fun hh => absurd hh (by decide), fun _ => H.e2 (by omega), fun _ => H.e3 (by omega), fun _ => H.e4 (by omega), fun _ => H.e5 (by omega), by decide⟩
      rw [← H.l, hs2]
      unfold Dl.lines
      simp [lnS, lnR, H.e2 (by omega), H.e3 (by omega), H.e4 (by omega), H.e5 (by omega)]
    · rw [if_neg hok] at h; cases h
  by_cases hj2 : j = 2
  · subst hj2
    rw [if_neg (show ¬ ((2 : Nat) : Int) = 0 by decide)] at h
    rw [if_neg (show ¬ ((2 : Nat) : Int) = 1 by decide)] at h
    rw [if_pos (show ((2 : Nat) : Int) = 2 by decide)] at h
    by_cases hok : okLnR d.ungrow t = true
    · rw [if_pos hok] at h
      cases h
      obtain ⟨h2, h3⟩ := okLnR_iff.1 hok
      have hs2 : s = mk2 ++ roleT (cutR t) := by rw [roleT_cut h2]; exact hs
      refine ⟨?_, H.a_more, H.a_gone, H.a_grow, asc_snocR H.a_ungrow h3, H.a_shrink, H.a_unshrink, fun hh => absurd hh (by decide), fun hh => absurd hh (by decide), fun _ => H.e3 (by omega), fun _ => H.e4 (by omega), fun _ => H.e5 (by omega), by decide⟩
      rw [← H.l, hs2]
      unfold Dl.lines
      simp [lnS, lnR, H.e3 (by omega), H.e4 (by omega), H.e5 (by omega)]
    · rw [if_neg hok] at h; cases h
  by_cases hj3 : j = 3
  · subst hj3
    rw [if_neg (show ¬ ((3 : Nat) : Int) = 0 by decide)] at h
    rw [if_neg (show ¬ ((3 : Nat) : Int) = 1 by decide)] at h
    rw [if_neg (show ¬ ((3 : Nat) : Int) = 2 by decide)] at h
    rw [if_pos (show ((3 : Nat) : Int) = 3 by decide)] at h
    by_cases hok : okLnR d.grow t = true
    · rw [if_pos hok] at h
      cases h
      obtain ⟨h2, h3⟩ := okLnR_iff.1 hok
      have hs2 : s = mk3 ++ roleT (cutR t) := by rw [roleT_cut h2]; exact hs
      refine ⟨?_, H.a_more, H.a_gone, asc_snocR H.a_grow h3, H.a_ungrow, H.a_shrink, H.a_unshrink, fun hh => absurd hh (by decide), fun hh => absurd hh (by decide), fun hh => absurd hh (by decide), fun _ => H.e4 (by omega), fun _ => H.e5 (by omega), by decide⟩
      rw [← H.l, hs2]
      unfold Dl.lines
      simp [lnS, lnR, H.e4 (by omega), H.e5 (by omega)]
    · rw [if_neg hok] at h; cases h
  by_cases hj4 : j = 4
  · subst hj4
    rw [if_neg (show ¬ ((4 : Nat) : Int) = 0 by decide)] at h
    rw [if_neg (show ¬ ((4 : Nat) : Int) = 1 by decide)] at h
    rw [if_neg (show ¬ ((4 : Nat) : Int) = 2 by decide)] at h
    rw [if_neg (show ¬ ((4 : Nat) : Int) = 3 by decide)] at h
    rw [if_pos (show ((4 : Nat) : Int) = 4 by decide)] at h
    by_cases hok : okLnR d.unshrink t = true
    · rw [if_pos hok] at h
      cases h
      obtain ⟨h2, h3⟩ := okLnR_iff.1 hok
      have hs2 : s = mk4 ++ roleT (cutR t) := by rw [roleT_cut h2]; exact hs
      refine ⟨?_, H.a_more, H.a_gone, H.a_grow, H.a_ungrow, H.a_shrink, asc_snocR H.a_unshrink h3, fun hh => absurd hh (by decide), fun hh => absurd hh (by decide), fun hh => absurd hh (by decide), fun hh => absurd hh (by decide), fun _ => H.e5 (by omega), by decide⟩
      rw [← H.l, hs2]
      unfold Dl.lines
      simp [lnS, lnR, H.e5 (by omega)]
    · rw [if_neg hok] at h; cases h
  by_cases hj5 : j = 5
  · subst hj5
    rw [if_neg (show ¬ ((5 : Nat) : Int) = 0 by decide)] at h
    rw [if_neg (show ¬ ((5 : Nat) : Int) = 1 by decide)] at h
    rw [if_neg (show ¬ ((5 : Nat) : Int) = 2 by decide)] at h
    rw [if_neg (show ¬ ((5 : Nat) : Int) = 3 by decide)] at h
    rw [if_neg (show ¬ ((5 : Nat) : Int) = 4 by decide)] at h
    by_cases hok : okLnR d.shrink t = true
    · rw [if_pos hok] at h
      cases h
      obtain ⟨h2, h3⟩ := okLnR_iff.1 hok
      have hs2 : s = mk5 ++ roleT (cutR t) := by rw [roleT_cut h2]; exact hs
      refine ⟨?_, H.a_more, H.a_gone, H.a_grow, H.a_ungrow, asc_snocR H.a_shrink h3, H.a_unshrink, fun hh => absurd hh (by decide), fun hh => absurd hh (by decide), fun hh => absurd hh (by decide), fun hh => absurd hh (by decide), fun hh => absurd hh (by decide), by decide⟩
      rw [← H.l, hs2]
      unfold Dl.lines
      simp [lnS, lnR]
    · rw [if_neg hok] at h; cases h
  omega
theorem goD_inv : ∀ (l : List ByteArray) (d : Dl) (last : Int) (i : Nat) (p : List ByteArray), InvD d last p → (goD d last i l).2 = 0 → ∃ m, InvD (goD d last i l).1 m (p ++ l)
  | [], d, last, i, p, H, _ => ⟨last, by rw [List.append_nil]; exact H⟩
  | s :: r, d, last, i, p, H, h0 => by
    cases h : stepD d last s with
    | none =>
      rw [goD_bad h] at h0
      dsimp only at h0
      omega
    | some d' =>
      rw [goD_go h] at h0 ⊢
      obtain ⟨m, hm⟩ := goD_inv r d' (kindB s).1 (i + 1) (p ++ [s]) (inv_step H h) h0
      exact ⟨m, by rw [List.append_assoc] at hm; exact hm⟩
theorem readD_lines {l : List ByteArray} (h : (readD l).2 = 0) : (readD l).1.lines = l ∧ insAll [] (readD l).1.more = (readD l).1.more ∧ insAll [] (readD l).1.gone = (readD l).1.gone ∧ insAllR [] (readD l).1.grow = (readD l).1.grow := by
  obtain ⟨m, hm⟩ := goD_inv l noDl 0 0 [] inv_no h
  exact ⟨hm.l, asc_ord hm.a_more, asc_ord hm.a_gone, asc_ordR hm.a_grow⟩
end Go.Proofs.YtomhekohcadijaaGreatDoor
namespace Go.Proofs.YtomhekohcadijaaGreatDoor
open Go.RowKit Go.Shelf

theorem sortR_row (va : Value) (l : List Rl) (w : World) (ha : SlA w 2 va l.length (l.flatMap Rl.cells)) (hl : l.length ≤ 1000) :
    Calls Tryz.prog 18 #[va] w fun e w' => ∃ v, e = .returned v ∧ Sl w' 2 v (insAllR [] l).length ((insAllR [] l).flatMap Rl.cells) ∧ Below w.heap.size w w' := ref5_Sort va l w ha hl

end Go.Proofs.YtomhekohcadijaaGreatDoor
namespace Go.Proofs.YtomhekohcadijaaGreatDoor
open Go.RowKit Go.Shelf

def hasB (l : List ByteArray) (s : ByteArray) : Bool := l.any (fun x => decide (x = s))
theorem hasB_yes {l : List ByteArray} {s : ByteArray} {k : Nat} (hl : k < l.length) (e : l[k] = s) : hasB l s = true := by
  unfold hasB; rw [List.any_eq_true]; exact ⟨l[k], List.getElem_mem hl, by simp [e]⟩
theorem hasB_end {l : List ByteArray} {s : ByteArray} {k : Nat} (hk : ¬ k < l.length) (h : ∀ j (hj : j < l.length), j < k → ¬ l[j] = s) : hasB l s = false := by
  unfold hasB; rw [List.any_eq_false]
  intro x hx
  obtain ⟨j, hj, rfl⟩ := List.getElem_of_mem hx
  simp [h j hj (by omega)]
def posSB : List ByteArray → ByteArray → Nat
  | [], _ => 0
  | a :: r, x => if cmpS a x < 0 then posSB r x + 1 else 0
def insAtB (l : List ByteArray) (x : ByteArray) (k : Nat) : List ByteArray := l.take k ++ x :: l.drop k
def insSB (l : List ByteArray) (x : ByteArray) : List ByteArray := if hasB l x then l else insAtB l x (posSB l x)
def insAllB : List ByteArray → List ByteArray → List ByteArray
  | acc, [] => acc
  | acc, x :: l => insAllB (insSB acc x) l
theorem pos_leB : ∀ (l : List ByteArray) (x : ByteArray), posSB l x ≤ l.length
  | [], _ => Nat.le_refl _
  | a :: r, x => by unfold posSB; have := pos_leB r x; split <;> simp <;> omega
theorem pos_ofB : ∀ (l : List ByteArray) (x : ByteArray) (k : Nat), k ≤ l.length → (∀ j (hj : j < l.length), j < k → cmpS l[j] x < 0) → (∀ hk : k < l.length, ¬ cmpS l[k] x < 0) → posSB l x = k
  | [], x, k, hk, _, _ => by simp at hk; subst hk; rfl
  | a :: r, x, 0, _, _, h => by
    have h' : ¬ cmpS a x < 0 := h (by simp)
    unfold posSB; rw [if_neg h']
  | a :: r, x, k + 1, hk, h1, h2 => by
    have h' : cmpS a x < 0 := h1 0 (by simp) (by omega)
    unfold posSB
    rw [if_pos h', pos_ofB r x k (by simpa using hk) (fun j hj hjk => h1 (j + 1) (by simp; omega) (by omega)) (fun hk' => h2 (by simp; omega))]
theorem insS_lenB (l : List ByteArray) (x : ByteArray) : (insSB l x).length ≤ l.length + 1 := by
  unfold insSB insAtB; split
  · omega
  · simp [List.length_take, List.length_drop]; have := pos_leB l x; omega
theorem insS_hasB {l : List ByteArray} {x : ByteArray} (h : hasB l x = true) : insSB l x = l := if_pos h
theorem insS_notB {l : List ByteArray} {x : ByteArray} (h : hasB l x = false) : insSB l x = insAtB l x (posSB l x) := if_neg (by rw [h]; exact Bool.false_ne_true)
theorem insAt_lenB {l : List ByteArray} {x : ByteArray} {j : Nat} (hj : j ≤ l.length) : (insAtB l x j).length = j + 1 + (l.length - j) := by
  unfold insAtB; rw [List.length_append, List.length_cons, List.length_take, List.length_drop]; omega
theorem eqB_self (x : ByteArray) : decide (x = x) = true := decide_eq_true rfl
theorem hasB_mem (l : List ByteArray) (x : ByteArray) : hasB l x = true ↔ x ∈ l := by
  unfold hasB; rw [List.any_eq_true]
  constructor
  · rintro ⟨y, hy, e⟩; rw [← of_decide_eq_true e]; exact hy
  · intro h; exact ⟨x, h, eqB_self x⟩
theorem lt_trans'B {x y z : ByteArray} (h : cmpS x y < 0) (h' : cmpS y z < 0) : cmpS x z < 0 := by
  obtain ⟨a, b⟩ := wcmp_str.le x y z (by omega) (by omega)
  have : ¬ cmpS x z = 0 := fun e => by have := (b e).1; omega
  omega
theorem lt_irrefl'B (x : ByteArray) : ¬ cmpS x x < 0 := by have := (cmpS_zero x x).2 rfl; omega
def AscB (l : List ByteArray) : Prop := l.Pairwise fun x y => cmpS x y < 0
theorem asc_uniqueB : ∀ (l m : List ByteArray), AscB l → AscB m → (∀ x, x ∈ l ↔ x ∈ m) → l = m
  | [], [], _, _, _ => rfl
  | [], y :: m, _, _, h => absurd ((h y).2 (by simp)) (by simp)
  | x :: l, [], _, _, h => absurd ((h x).1 (by simp)) (by simp)
  | x :: l, y :: m, hl, hm, h => by
    have hl' := List.pairwise_cons.1 hl
    have hm' := List.pairwise_cons.1 hm
    have e : x = y := by
      rcases List.mem_cons.1 ((h x).1 (by simp)) with e | e
      · exact e
      · rcases List.mem_cons.1 ((h y).2 (by simp)) with e' | e'
        · exact e'.symm
        · exact absurd (lt_trans'B (hm'.1 x e) (hl'.1 y e')) (lt_irrefl'B y)
    subst e
    refine congrArg (x :: ·) (asc_uniqueB l m hl'.2 hm'.2 fun z => ?_)
    constructor
    · intro hz
      rcases List.mem_cons.1 ((h z).1 (by simp [hz])) with e | e
      · subst e; exact absurd (hl'.1 z hz) (lt_irrefl'B z)
      · exact e
    · intro hz
      rcases List.mem_cons.1 ((h z).2 (by simp [hz])) with e | e
      · subst e; exact absurd (hm'.1 z hz) (lt_irrefl'B z)
      · exact e
theorem insS_memB (l : List ByteArray) (x z : ByteArray) : z ∈ insSB l x ↔ z ∈ l ∨ z = x := by
  unfold insSB
  by_cases h : hasB l x = true
  · rw [if_pos h]
    exact ⟨.inl, fun h' => h'.elim id (fun e => e ▸ (hasB_mem l x).1 h)⟩
  · rw [if_neg h]
    unfold insAtB
    rw [List.mem_append, List.mem_cons]
    have := List.take_append_drop (posSB l x) l
    constructor
    · rintro (h | h | h)
      · exact .inl (List.mem_of_mem_take h)
      · exact .inr h
      · exact .inl (List.mem_of_mem_drop h)
    · rintro (h | h)
      · rw [← this] at h
        rcases List.mem_append.1 h with h | h
        · exact .inl h
        · exact .inr (.inr h)
      · exact .inr (.inl h)
theorem pos_takeB : ∀ (l : List ByteArray) (x z : ByteArray), z ∈ l.take (posSB l x) → cmpS z x < 0
  | [], _, _, h => by simp at h
  | a :: r, x, z, h => by
    unfold posSB at h
    by_cases ha : cmpS a x < 0
    · rw [if_pos ha] at h
      rcases List.mem_cons.1 (by simpa using h) with rfl | h
      · exact ha
      · exact pos_takeB r x z h
    · rw [if_neg ha] at h; simp at h
theorem pos_dropB : ∀ (l : List ByteArray) (x z : ByteArray), AscB l → z ∈ l.drop (posSB l x) → ¬ cmpS z x < 0
  | [], _, _, _, h => by simp at h
  | a :: r, x, z, hl, h => by
    unfold posSB at h
    by_cases ha : cmpS a x < 0
    · rw [if_pos ha] at h
      exact pos_dropB r x z (List.pairwise_cons.1 hl).2 (by simpa using h)
    · rw [if_neg ha] at h
      rcases List.mem_cons.1 (by simpa using h) with rfl | h
      · exact ha
      · have := (List.pairwise_cons.1 hl).1 z h
        intro hz; exact ha (lt_trans'B this hz)
theorem insS_ascB {l : List ByteArray} (h : AscB l) (x : ByteArray) : AscB (insSB l x) := by
  unfold insSB
  by_cases hx : hasB l x = true
  · rw [if_pos hx]; exact h
  · rw [if_neg hx]
    have hn : ¬ x ∈ l := fun h' => hx ((hasB_mem l x).2 h')
    have h1 : AscB (l.take (posSB l x)) := h.sublist (List.take_sublist _ _)
    have h2 : AscB (l.drop (posSB l x)) := h.sublist (List.drop_sublist _ _)
    have h3 : ∀ a ∈ l.take (posSB l x), ∀ b ∈ l.drop (posSB l x), cmpS a b < 0 := by
      have := h
      rw [AscB, ← List.take_append_drop (posSB l x) l, List.pairwise_append] at this
      exact this.2.2
    unfold insAtB AscB
    rw [List.pairwise_append, List.pairwise_cons]
    refine ⟨h1, ⟨fun b hb => ?_, h2⟩, fun a ha b hb => ?_⟩
    · have h4 := pos_dropB l x b h hb
      have h5 : ¬ cmpS b x = 0 := fun e => hn ((cmpS_zero b x).1 e ▸ List.mem_of_mem_drop hb)
      have := wcmp_str.neg b x
      omega
    · rcases List.mem_cons.1 hb with rfl | hb
      · exact pos_takeB l b a ha
      · exact h3 a ha b hb
theorem insAll_ascB : ∀ (l acc : List ByteArray), AscB acc → AscB (insAllB acc l)
  | [], _, h => h
  | x :: l, _, h => insAll_ascB l _ (insS_ascB h x)
theorem insAll_memB : ∀ (l acc : List ByteArray) (z : ByteArray), z ∈ insAllB acc l ↔ z ∈ acc ∨ z ∈ l
  | [], acc, z => by simp [insAllB]
  | x :: l, acc, z => by
    unfold insAllB
    rw [insAll_memB l, insS_memB, List.mem_cons, or_assoc]
theorem insAll_lenB : ∀ (l acc : List ByteArray), (insAllB acc l).length ≤ acc.length + l.length
  | [], acc => Nat.le_refl _
  | x :: r, acc => by
    have h1 := insAll_lenB r (insSB acc x)
    have h2 := insS_lenB acc x
    show (insAllB (insSB acc x) r).length ≤ acc.length + (r.length + 1)
    omega
end Go.Proofs.YtomhekohcadijaaGreatDoor
namespace Go.Proofs.YtomhekohcadijaaGreatDoor
open Go.RowKit Go.Shelf

def newB (l : List ByteArray) : List ByteArray := insAllB [] l
theorem new_asc (l : List ByteArray) : AscB (newB l) := insAll_ascB l [] List.Pairwise.nil
theorem new_mem (l : List ByteArray) (x : ByteArray) : x ∈ newB l ↔ x ∈ l := by unfold newB; rw [insAll_memB]; simp
theorem new_len (l : List ByteArray) : (newB l).length ≤ l.length := by have := insAll_lenB l []; simpa [newB] using this
structure Ru where
  k : Int
  h : Int
  who : Int
  a : Int
  b : Int
  via : Int
deriving DecidableEq
end Go.Proofs.YtomhekohcadijaaGreatDoor
namespace Go.Proofs.YtomhekohcadijaaGreatDoor
open Go.RowKit Go.Shelf Go.Lib Go.Sort

def dedupG {α : Type} [DecidableEq α] : List α → List α
  | [] => []
  | [x] => [x]
  | x :: y :: r => if x = y then dedupG (y :: r) else x :: dedupG (y :: r)
section
variable {α : Type} [DecidableEq α]
theorem dedupG_mem : ∀ (l : List α) (z : α), z ∈ dedupG l ↔ z ∈ l
  | [], z => by simp [dedupG]
  | [x], z => by simp [dedupG]
  | x :: y :: r, z => by
    have ih := dedupG_mem (y :: r) z
    unfold dedupG
    by_cases e : x = y
    · rw [if_pos e, ih, e]; simp
    · rw [if_neg e, List.mem_cons, ih, List.mem_cons (b := x)]
theorem dedupG_snoc : ∀ (p : List α) (y z : α), dedupG (p ++ [y, z]) = if y = z then dedupG (p ++ [y]) else dedupG (p ++ [y]) ++ [z]
  | [], y, z => by
    show dedupG [y, z] = if y = z then dedupG [y] else dedupG [y] ++ [z]
    unfold dedupG
    by_cases h : y = z
    · rw [if_pos h, if_pos h, h]; rfl
    · rw [if_neg h, if_neg h]; rfl
  | [x], y, z => by
    have ih := dedupG_snoc [] y z
    simp only [List.nil_append] at ih
    show dedupG (x :: y :: [z]) = if y = z then dedupG (x :: y :: []) else dedupG (x :: y :: []) ++ [z]
    have e1 : dedupG (x :: y :: [z]) = if x = y then dedupG [y, z] else x :: dedupG [y, z] := rfl
    have e2 : dedupG (x :: y :: []) = if x = y then dedupG [y] else x :: dedupG [y] := rfl
    rw [e1, e2, ih]
    by_cases h1 : x = y <;> by_cases h2 : y = z <;> simp [h1, h2]
  | x :: x' :: p, y, z => by
    have ih := dedupG_snoc (x' :: p) y z
    simp only [List.cons_append] at ih ⊢
    have e1 : ∀ r, dedupG (x :: x' :: r) = if x = x' then dedupG (x' :: r) else x :: dedupG (x' :: r) := fun _ => rfl
    rw [e1, e1, ih]
    by_cases h1 : x = x' <;> by_cases h2 : y = z <;> simp [h1, h2]
theorem compactUpTo_dedup [Inhabited α] (zs : List α) : ∀ m, m ≤ zs.length → compactUpTo zs.toArray m = dedupG (zs.take m)
  | 0, _ => rfl
  | 1, h => by
    rw [compactUpTo_succ, keeps_lt_one _ 0 (by omega)]
    match zs, h with
    | x :: r, _ => simp [compactUpTo, dedupG]
  | m + 2, h => by
    have ih := compactUpTo_dedup zs (m + 1) (by omega)
    have e0 : zs.toArray[m + 1]! = zs[m + 1] := by simp [show m + 1 < zs.length by omega]
    have e1 : zs.toArray[m]! = zs[m] := by simp [show m < zs.length by omega]
    have et : zs.take (m + 2) = zs.take m ++ [zs[m], zs[m + 1]] := by
      rw [List.take_succ_eq_append_getElem (by omega), List.take_succ_eq_append_getElem (by omega), List.append_assoc]; rfl
    have et1 : zs.take (m + 1) = zs.take m ++ [zs[m]] := List.take_succ_eq_append_getElem (by omega)
    rw [compactUpTo_succ, ih, et, dedupG_snoc, ← et1]
    by_cases e : zs[m] = zs[m + 1]
    · rw [if_pos e, keeps_neg (by omega) (by rw [e0, show m + 1 - 1 = m by omega, e1]; exact e.symm)]
      simp
    · rw [if_neg e, keeps_pos (by rw [e0, show m + 1 - 1 = m by omega, e1]; exact fun h => e h.symm), if_pos rfl, e0]
theorem compact_dedup [Inhabited α] (zs : List α) : compact zs = dedupG zs := by
  unfold compact
  rw [compactUpTo_dedup zs _ (Nat.le_refl _), List.take_of_length_le (Nat.le_refl _)]
end
def toBA (x : List UInt8) : ByteArray := ⟨x.toArray⟩
theorem bl_toBA (x : List UInt8) : bl (toBA x) = x := by simp [bl, toBA]
theorem toBA_bl (x : ByteArray) : toBA (bl x) = x := by cases x; simp [bl, toBA]
theorem le_cmp (x y : List UInt8) : x ≤ y ↔ compareBytes x y ≤ 0 := by
  have h1 := bytesLess_eq y x
  have h2 := cmp_less y x
  have h3 := cmp_neg x y
  rw [h1] at h2
  have h4 : y < x ↔ compareBytes y x < 0 := by
    constructor
    · intro h; exact of_decide_eq_true (h2 ▸ decide_eq_true h)
    · intro h; exact of_decide_eq_true (h2.symm ▸ decide_eq_true h)
  rw [← List.not_lt, h4]
  omega
theorem dedupG_asc : ∀ (l : List (List UInt8)), (l.Pairwise fun x y => x ≤ y) → AscB ((dedupG l).map toBA)
  | [], _ => List.Pairwise.nil
  | [x], _ => by simp [dedupG, AscB]
  | x :: y :: r, h => by
    have h' := List.pairwise_cons.1 h
    have ih := dedupG_asc (y :: r) h'.2
    unfold dedupG
    by_cases e : x = y
    · rw [if_pos e]; exact ih
    · rw [if_neg e, List.map_cons]
      refine List.pairwise_cons.2 ⟨fun z hz => ?_, ih⟩
      obtain ⟨z', hz', rfl⟩ := List.mem_map.1 hz
      have hz'' := (dedupG_mem (y :: r) z').1 hz'
      have hxz : compareBytes x z' ≤ 0 := (le_cmp x z').1 (h'.1 z' hz'')
      have hxy : compareBytes x y ≤ 0 := (le_cmp x y).1 (h'.1 y (by simp))
      have hyz : compareBytes y z' ≤ 0 := by
        rcases List.mem_cons.1 hz'' with rfl | hz''
        · have := (cmp_zero z' z').2 rfl; omega
        · exact (le_cmp y z').1 ((List.pairwise_cons.1 h'.2).1 z' hz'')
      have hne : ¬ compareBytes x y = 0 := fun h0 => e ((cmp_zero x y).1 h0)
      obtain ⟨_, h2⟩ := cmpB_le x y z' hxy hyz
      have hne2 : ¬ compareBytes x z' = 0 := fun h0 => hne (h2 h0).1
      show compareBytes (bl (toBA x)) (bl (toBA z')) < 0
      rw [bl_toBA, bl_toBA]
      omega
theorem sorted_new (l : List ByteArray) : (compact ((l.map bl).mergeSort fun x y => decide (x ≤ y))).map toBA = newB l := by
  rw [compact_dedup]
  have hs : ((l.map bl).mergeSort fun x y => decide (x ≤ y)).Pairwise fun x y => x ≤ y := by
    have h := List.pairwise_mergeSort (le := fun (x y : List UInt8) => decide (x ≤ y)) (fun a b c h1 h2 => decide_eq_true (List.le_trans (of_decide_eq_true h1) (of_decide_eq_true h2))) (fun a b => by
      rw [Bool.or_eq_true, decide_eq_true_iff, decide_eq_true_iff]; exact List.le_total a b) (l.map bl)
    exact h.imp (fun h => of_decide_eq_true h)
  refine asc_uniqueB _ _ (dedupG_asc _ hs) (new_asc l) fun z => ?_
  rw [new_mem, List.mem_map]
  constructor
  · rintro ⟨x, hx, rfl⟩
    have := (dedupG_mem _ x).1 hx
    rw [List.mem_mergeSort, List.mem_map] at this
    obtain ⟨y, hy, rfl⟩ := this
    rw [toBA_bl]; exact hy
  · intro hz
    refine ⟨bl z, (dedupG_mem _ _).2 ?_, toBA_bl z⟩
    rw [List.mem_mergeSort]
    exact List.mem_map.2 ⟨z, hz, rfl⟩
end Go.Proofs.YtomhekohcadijaaGreatDoor
namespace Go.Proofs.YtomhekohcadijaaGreatDoor
open Go.RowKit Go.Shelf Go.Sort

def TabAt (w : World) (b : Nat) (l : List ByteArray) : Prop := ∃ v, w.cell? ⟨b, 0, none⟩ = some v ∧ Sl w 1 v l.length (strs l) ∧ b < w.heap.size
theorem tab_new {w1 : World} {v : Value} {l : List ByteArray} (h : Sl w1 1 v l.length (strs l)) (t : TypeId) : TabAt (w1.alloc (.cells #[v] t)) w1.heap.size l :=
  ⟨v, (Blk.new w1 #[v] t).1 0, h.below ((Below.refl _ _).alloc (Nat.le_refl _) _), by simp⟩
theorem strs_bl (l : List ByteArray) : strs l = (l.map bl).map encStr := by
  unfold strs
  rw [List.map_map]
  refine List.map_congr_left fun x _ => ?_
  show Value.string x = Value.string (toBA (bl x))
  rw [toBA_bl]
theorem sorted_strs (l : List ByteArray) : (Lib.compact ((l.map bl).mergeSort fun x y => decide (x ≤ y))).map encStr = strs (newB l) := by
  rw [← sorted_new l]
  unfold strs
  rw [List.map_map]; rfl
theorem sorted_len (l : List ByteArray) : (Lib.compact ((l.map bl).mergeSort fun x y => decide (x ≤ y))).length = (newB l).length := by
  have := congrArg List.length (sorted_new l)
  rwa [List.length_map] at this
theorem new_left {w w1 : World} {g cap n nn q : Nat} {os : Array Obj} {ss : List (List UInt8)} (hown : w1.ownsRow w.heap.size 9 1 (.slice (some ⟨g, 0, none⟩) n cap) n (ss.map encStr)) (hbel : Below w.heap.size w w1) (hbg : w.heap.size ≤ g) (hlen : ss.length = n) (w' : World)
    (hw' : w' = putRow encStr (Sort.ahead (grow (putRow encStr (Sort.ahead w1 nn) g 0 (ss.mergeSort fun x y => decide (x ≤ y)).toArray) os) q) g 0 (Lib.compact (ss.mergeSort fun x y => decide (x ≤ y)) ++ List.replicate (n - (Lib.compact (ss.mergeSort fun x y => decide (x ≤ y))).length) []).toArray) :
    w'.ownsRow w.heap.size 9 1 (.slice (some ⟨g, 0, none⟩) (Lib.compact (ss.mergeSort fun x y => decide (x ≤ y))).length cap) (Lib.compact (ss.mergeSort fun x y => decide (x ≤ y))).length ((Lib.compact (ss.mergeSort fun x y => decide (x ≤ y))).map encStr) ∧ Below w.heap.size w w' := by
  subst hw'
  have hl2 : (ss.mergeSort fun x y => decide (x ≤ y)).length = ss.length := List.length_mergeSort ss
  have hle := Lib.compact_length_le (ss.mergeSort fun x y => decide (x ≤ y))
  subst hlen
  rcases hown.2 with ⟨h0, _⟩ | ⟨g', cap', cur, hv, hbase, hb, h1, h2, h3, h4⟩
  · cases h0
  cases hv
  have hs := ownsRow_sorted (n := nn) (os := os) (ts := ss.mergeSort fun x y => decide (x ≤ y)) hl2 hbase hb h1 h2 h3
  have hc := Lib.ownsRow_putRow (q := q) (k := (Lib.compact (ss.mergeSort fun x y => decide (x ≤ y))).length) (ys := Lib.compact (ss.mergeSort fun x y => decide (x ≤ y)) ++ List.replicate (ss.length - (Lib.compact (ss.mergeSort fun x y => decide (x ≤ y))).length) []) hs (by simp; omega) (by omega)
  rw [List.take_left] at hc
  exact ⟨hc, Lib.below_putRow (hbel.grown (grownBy_sorted _) hbel.size (fun j hj => by cases hj; exact hbase)) hbg⟩
set_option maxRecDepth 100000 in
set_option maxHeartbeats 4000000 in
theorem names_New (va : Value) (l : List ByteArray) (w : World) (ha : SlA w 1 va l.length (strs l)) (hl : l.length ≤ 100000) :
    Calls Tryz.prog 215 #[va] w fun e w' => ∃ b, e = .returned (.pointer (some ⟨b, 0, none⟩)) ∧ TabAt w' b (newB l) ∧ w.heap.size ≤ b ∧ Below w.heap.size w w' := by
  by_cases h0 : 0 < l.length
  · obtain ⟨b1, o1, c1, rfl, hc1, hm1, hb1, hx1⟩ := ha.pos h0
    have CL := Lib.hid (Tryz.slices_Clone_string b1 o1 l.length c1 l w (Nat.le_refl _) (by omega) (fun j hj => by
      rw [hx1 j _ (strs_get hj), List.getD_eq_getElem?_getD, List.getElem?_eq_getElem hj]; rfl))
    have SL := Lib.hid (strs_bl l)
    have SN := Lib.hid (sorted_strs l)
    have SE := Lib.hid (sorted_len l)
    clear ha hx1
    go_enter Tryz.func215, Tryz.ntmps215
    go_wp2_with fail
    refine CL.out.mono ?_
    rintro e w1 ⟨v1, rfl, hown, hnn, hbel⟩
    rw [List.take_of_length_le (Nat.le_refl _), show l.map Value.string = (l.map bl).map encStr from SL.out] at hown
    obtain ⟨g, cap, rfl, hbg, hgl, hncap, hcm, hlen, hH⟩ := Lib.holds_of_ownsRow hown hnn
    have HOWN := Lib.hid hown
    have HBEL := Lib.hid hbel
    have SO := Lib.hid (Tryz.slices_Sort_string g 0 cap (l.map bl) w1 hH hgl (by rw [List.length_map]; omega))
    rw [List.length_map] at SO
    have HH := Lib.hid hH
    clear hown hbel hH hnn CL SL
    go_wp2_with fail
    refine SO.out.mono ?_
    rintro e w2 ⟨rfl, nn, os, hw2⟩
    have hl2 : ((l.map bl).mergeSort fun x y => decide (x ≤ y)).length = l.length := by rw [List.length_mergeSort, List.length_map]
    have hH2 : Holds encStr w2 g 0 ((l.map bl).mergeSort fun x y => decide (x ≤ y)).toArray := by
      rw [hw2]
      exact holds_grow encStr _ os g 0 _ (by simpa [putRow, mapBlock, Sort.ahead] using hgl) (holds_putRow encStr _ g 0 _ _ (holds_ahead encStr w1 nn g 0 _ HH.out) (by simp))
    have CO := Lib.hid (Tryz.slices_Compact_string g 0 cap ((l.map bl).mergeSort fun x y => decide (x ≤ y)) w2 hH2 (by omega) (by omega))
    rw [hl2] at CO
    have HW2 := Lib.hid hw2
    clear hH2 SO HH hw2
    go_wp2_with fail
    refine CO.out.mono ?_
    rintro e w3 ⟨rfl, q, hw3⟩
    have LE := new_left (w := w) (q := q) HOWN.out HBEL.out hbg (by simp) w3 (by rw [hw3, HW2.out])
    rw [SN.out, SE.out] at LE
    have HS := Lib.hid (Sl.of_own LE.1)
    have HB := Lib.hid LE.2
    have hz := LE.2.size
    rw [SE.out]
    clear LE hw3 CO HW2 HOWN HBEL SN SE hl2
    go_wp2
    go_ret
    exact ⟨_, rfl, tab_new HS.out _, hz, HB.out.alloc HB.out.size _⟩
  · obtain rfl : l = [] := List.eq_nil_of_length_eq_zero (by omega)
    obtain ⟨ao, ac, rfl⟩ := ha.form
    cases ao with
    | none =>
      clear ha
      go_enter Tryz.func215, Tryz.ntmps215
      go_wp2_with fail
      refine (Tryz.slices_Clone_string_nil 0 ac w).mono ?_
      rintro e w1 ⟨rfl, rfl⟩
      go_wp2_with fail
      refine (Tryz.slices_Sort_string_none none 0 _).mono ?_
      rintro e w2 ⟨rfl, rfl⟩
      go_wp2_with fail
      refine (Tryz.slices_Compact_string_empty none 0 _).mono ?_
      rintro e w3 ⟨rfl, rfl⟩
      go_wp2
      go_ret
      exact ⟨_, rfl, tab_new (Sl.nil _ _) _, Nat.le_refl _, (Below.refl _ _).alloc (Nat.le_refl _) _⟩
    | some a =>
      clear ha
      go_enter Tryz.func215, Tryz.ntmps215
      go_wp2_with fail
      refine (Tryz.slices_Clone_string_zero a ac w).mono ?_
      rintro e w1 ⟨v1, rfl, hown, hnn, hbel⟩
      obtain ⟨vo, vc, rfl⟩ := own_form hown
      have HS := Lib.hid (Sl.of_own hown)
      have HB := Lib.hid hbel
      have hz := hbel.size
      clear hown hnn hbel
      go_wp2_with fail
      refine (Tryz.slices_Sort_string_none _ _ _).mono ?_
      rintro e w2 ⟨rfl, rfl⟩
      go_wp2_with fail
      refine (Tryz.slices_Compact_string_empty _ _ _).mono ?_
      rintro e w3 ⟨rfl, rfl⟩
      go_wp2
      go_ret
      exact ⟨_, rfl, tab_new (l := []) HS.out _, hz, HB.out.alloc HB.out.size _⟩
end Go.Proofs.YtomhekohcadijaaGreatDoor
namespace Go.Proofs.YtomhekohcadijaaGreatDoor
open Go.RowKit Go.Shelf

end Go.Proofs.YtomhekohcadijaaGreatDoor
namespace Go.Proofs.YtomhekohcadijaaGreatDoor
open Go.RowKit Go.Shelf

end Go.Proofs.YtomhekohcadijaaGreatDoor
namespace Go.Proofs.YtomhekohcadijaaGreatDoor
open Go.RowKit Go.Shelf

section
variable {t ba bb : Nat} {a b : List ByteArray} {w : World}
end
end Go.Proofs.YtomhekohcadijaaGreatDoor
namespace Go.Proofs.YtomhekohcadijaaGreatDoor
open Go.RowKit Go.Shelf

set_option maxHeartbeats 1000000 in
theorem ref1_HasB (va : Value) (l : List ByteArray) (s : ByteArray) (w : World) (ha : SlA w 1 va l.length (strs l)) :
    Calls Tryz.prog 231 #[va, .string s] w fun e w' => e = .returned (.bool (hasB l s)) ∧ w' = w := by
  have HA := Lib.hid ha
  have hmax := ha.max
  have HY := Lib.hid (fun k (hk : k < l.length) (e : l[k] = s) => hasB_yes hk e)
  have HE := Lib.hid (fun k (hk : ¬ k < l.length) h => hasB_end (l := l) (s := s) (k := k) hk h)
  obtain ⟨ao, cap, hva⟩ := ha.form
  subst hva
  clear ha
  generalize hasB l s = r at HY HE ⊢
  go_enter Tryz.func231, Tryz.ntmps231
  go_wp2
  go_loop [9] (fun i => ∃ k : Nat, k ≤ l.length ∧ i = .int .i64 k ∧ Hid (∀ j (hj : j < l.length), j < k → ¬ l[j] = s)) (fun i => l.length - (intOf i).toNat)
  case atStart => exact ⟨0, by omega, rfl, Lib.hid (fun _ _ h => absurd h (by omega))⟩
  case round =>
    obtain ⟨k, hk, rfl, HT⟩ := hrel
    by_cases hlt : k < l.length
    · obtain ⟨b1, o1, c1, he1, hc1, hm1, hb1, hx1⟩ := HA.out.pos (by omega)
      simp only [Value.slice.injEq, true_and] at he1
      obtain ⟨rfl, rfl⟩ := he1
      have p0 := hx1 k _ (strs_get hlt)
      clear hx1
      have bs := beq_str l[k] s
      by_cases he : l[k] = s
      · have R := Lib.hid (HY.out k hlt he)
        rw [decide_eq_true he] at bs
        clear he
        go_wp2
        go_ret
        exact ⟨by rw [R.out]; rfl, rfl⟩
      · have HT2 : Hid (∀ j (hj : j < l.length), j < k + 1 → ¬ l[j] = s) := Lib.hid (fun j hj hjk => by
          by_cases h : j < k
          · exact HT.out j hj h
          · obtain rfl : j = k := by omega
            exact he)
        rw [decide_eq_false he] at bs
        clear he
        go_wp2
        exact ⟨⟨k + 1, by omega, by go_num, HT2⟩, by simp [intOf]; omega⟩
    · have R := Lib.hid (HE.out k hlt HT.out)
      go_wp2
      go_ret
      exact ⟨by rw [R.out]; rfl, rfl⟩
structure PutI (l : List ByteArray) (s : ByteArray) (k : Nat) (d : Bool) (ss : List ByteArray) : Prop where
  le : k ≤ l.length
  f : d = false → ss = l.take k ∧ ∀ j (hj : j < l.length), j < k → cmpS l[j] s < 0
  t : d = true → posSB l s < k ∧ ss = insAtB (l.take k) s (posSB l s)
theorem PutI.start (l : List ByteArray) (s : ByteArray) : PutI l s 0 false [] := ⟨by omega, fun _ => ⟨rfl, fun _ _ h => absurd h (by omega)⟩, fun h => by cases h⟩
theorem PutI.len {l : List ByteArray} {s : ByteArray} {k : Nat} {d : Bool} {ss : List ByteArray} (h : PutI l s k d ss) : ss.length ≤ l.length + 1 := by
  have hk := h.le
  cases d with
  | false => rw [(h.f rfl).1, List.length_take]; omega
  | true =>
    have h1 := (h.t rfl).1
    rw [(h.t rfl).2, insAt_lenB (by rw [List.length_take]; omega), List.length_take]; omega
theorem insAt_last {l : List ByteArray} {x : ByteArray} : insAtB l x l.length = l ++ [x] := by
  unfold insAtB
  rw [List.take_of_length_le (Nat.le_refl _), List.drop_of_length_le (Nat.le_refl _)]
theorem insAt_snoc {l : List ByteArray} {x y : ByteArray} {p : Nat} (hp : p ≤ l.length) : insAtB l x p ++ [y] = insAtB (l ++ [y]) x p := by
  unfold insAtB
  rw [List.take_append_of_le_length hp, List.drop_append_of_le_length hp, List.append_assoc]; rfl
section
variable {l : List ByteArray} {s : ByteArray} {k : Nat} {ss : List ByteArray}
theorem PutI.yes (h : PutI l s k true ss) (hk : k < l.length) : PutI l s (k + 1) true (ss ++ [l[k]]) := by
  obtain ⟨h1, h2⟩ := h.t rfl
  refine ⟨hk, fun h => (by cases h), fun _ => ⟨by omega, ?_⟩⟩
  rw [h2, insAt_snoc (by rw [List.length_take]; omega), ← List.take_succ_eq_append_getElem hk]
theorem lt_or (x y : ByteArray) (h : ¬ x = y) (h' : Op.bytesLess y.toList x.toList = false) : cmpS x y < 0 := by
  rw [← str_less, decide_eq_false_iff_not] at h'
  have h1 : ¬ cmpS x y = 0 := fun e => h ((cmpS_zero x y).1 e)
  have h2 := cmpS_neg x y
  omega
theorem PutI.no (h : PutI l s k false ss) (hk : k < l.length) (hne : ¬ l[k] = s) (hb : Op.bytesLess s.toList l[k].toList = false) : PutI l s (k + 1) false (ss ++ [l[k]]) := by
  obtain ⟨h1, h2⟩ := h.f rfl
  refine ⟨hk, fun _ => ⟨by rw [h1, ← List.take_succ_eq_append_getElem hk], fun j hj hjk => ?_⟩, fun h => (by cases h)⟩
  by_cases h' : j < k
  · exact h2 j hj h'
  · obtain rfl : j = k := by omega
    exact lt_or _ _ hne hb
theorem PutI.put (h : PutI l s k false ss) (hk : k < l.length) (hb : Op.bytesLess s.toList l[k].toList = true) : PutI l s (k + 1) true (ss ++ [s] ++ [l[k]]) := by
  obtain ⟨h1, h2⟩ := h.f rfl
  have hp : posSB l s = k := pos_ofB l s k (by omega) h2 (fun _ => by
    rw [← str_less] at hb
    have := of_decide_eq_true hb
    have h3 := cmpS_neg s l[k]
    omega)
  refine ⟨hk, fun h => (by cases h), fun _ => ⟨by omega, ?_⟩⟩
  have hk' : (l.take k).length = k := by rw [List.length_take]; omega
  have e : insAtB (l.take k) s k = l.take k ++ [s] := by have := insAt_last (l := l.take k) (x := s); rwa [hk'] at this
  rw [hp, h1, List.take_succ_eq_append_getElem hk, ← insAt_snoc (by rw [hk']; exact Nat.le_refl _), e]
theorem PutI.endT (h : PutI l s k true ss) (hk : l.length ≤ k) : ss = insAtB l s (posSB l s) := by
  have := (h.t rfl).2
  rwa [List.take_of_length_le hk] at this
theorem PutI.endF (h : PutI l s k false ss) (hk : l.length ≤ k) : ss ++ [s] = insAtB l s (posSB l s) := by
  obtain ⟨h1, h2⟩ := h.f rfl
  have hp : posSB l s = l.length := pos_ofB l s l.length (Nat.le_refl _) (fun j hj _ => h2 j hj (by omega)) (fun h => absurd h (by omega))
  rw [hp, h1, List.take_of_length_le hk]
  unfold insAtB
  rw [List.take_of_length_le (Nat.le_refl _), List.drop_of_length_le (Nat.le_refl _)]
end
set_option maxRecDepth 100000 in
set_option maxHeartbeats 4000000 in
theorem ref1_PutB (va : Value) (l : List ByteArray) (s : ByteArray) (w : World) (ha : SlA w 1 va l.length (strs l)) (hn : l.length ≤ 100000) :
    Calls Tryz.prog 168 #[va, .string s] w fun e w' => ∃ v, e = .returned v ∧ SlA w' 1 v (insSB l s).length (strs (insSB l s)) ∧ Below w.heap.size w w' := by
  have HA := Lib.hid ha
  have HH := Lib.hid (ref1_HasB va l s w ha)
  have IY := Lib.hid (fun h => insS_hasB (l := l) (x := s) h)
  have IN := Lib.hid (fun h => insS_notB (l := l) (x := s) h)
  have NE := Lib.hid (fun (h : hasB l s = false) k (hk : k < l.length) => show ¬ l[k] = s from fun e => absurd (hasB_yes hk e) (by rw [h]; exact Bool.false_ne_true))
  generalize hasB l s = b at HH IY IN NE
  have hmax := ha.max
  obtain ⟨ao, cap, hva⟩ := ha.form
  subst hva
  clear ha
  go_enter Tryz.func168, Tryz.ntmps168
  go_wp2_with fail
  refine HH.out.mono ?_
  rintro e w1 ⟨rfl, rfl⟩
  cases b with
  | true =>
    go_wp2
    go_ret
    exact ⟨_, rfl, by rw [IY.out (by first | rfl | trivial)]; exact HA.out, Below.refl _ _⟩
  | false =>
    obtain ⟨wA, hwA⟩ : ∃ wA, wA = w1 := ⟨_, rfl⟩
    subst hwA
    have INS := Lib.hid (IN.out rfl)
    have NEQ := Lib.hid (NE.out rfl)
    clear IY IN NE
    go_wp2_with fail
    go_loopw [5, 6, 15] (fun vo dv i wr => ∃ (k : Nat) (d : Bool) (ss : List ByteArray), k ≤ l.length ∧ i = .int .i64 k ∧ dv = .bool d ∧ Hid (PutI l s k d ss) ∧ Hid (Below wA.heap.size wA wr) ∧ Hid (wr.ownsRow wA.heap.size 9 1 vo ss.length (strs ss))) (fun _ _ i _ => l.length - (intOf i).toNat)
    case atStart => exact ⟨0, false, [], by omega, rfl, rfl, Lib.hid (PutI.start l s), Lib.hid (Below.refl _ _), Lib.hid (World.ownsRow_nil _ _ _ _)⟩
    case round =>
      obtain ⟨k, d, ss, hk, rfl, rfl, HC, HB, HO⟩ := hrel
      obtain ⟨oo, oc, rfl⟩ := own_form HO.out
      have hss : ss.length ≤ 100002 := by have := HC.out.len; omega
      by_cases hlt : k < l.length
      · obtain ⟨b1, o1, c1, he1, hc1, hm1, hb1, hx1⟩ := HA.out.pos (by omega)
        simp only [Value.slice.injEq, true_and] at he1
        obtain ⟨rfl, rfl⟩ := he1
        have p0 := (HB.out.cell (p := ⟨b1, o1 + k, none⟩) hb1).trans (hx1 k _ (strs_get hlt))
        have hbr : b1 < wr.heap.size := Nat.lt_of_lt_of_le hb1 HB.out.size
        have PY := Lib.hid (fun (h : PutI l s k true ss) => h.yes hlt)
        have PN := Lib.hid (fun (h : PutI l s k false ss) e => h.no hlt (NEQ.out k hlt) e)
        have PP := Lib.hid (fun (h : PutI l s k false ss) e => h.put hlt e)
        clear hx1
        generalize l[k] = x at *
        cases d with
        | true =>
          have HC' := HC.out
          have hown := HO.out
          go_wp2_with (at_builtin; refine halt_ ?_)
          unfold Halt_
          refine app_own Tryz.underlying27 str_info rfl (by decide) (by decide) rfl _ _ rfl wA.heap.size rfl (hown.alloc _) [.string x] rfl (heap_new1 _ _) rfl (str1 _) ?_ ?_ ?_
          · omega
          · have := HB.out.size; simp; omega
          intro a' cap' w3 hown' hgrow
          obtain ⟨q1, q2⟩ := own_push (x := x) HB.out hown hown' hgrow
          have HO1 := Lib.hid q1
          have HB1 := Lib.hid q2
          clear hown hown' hgrow q1 q2
          go_wp2_with fail
          exact ⟨⟨k + 1, true, ss ++ [x], by omega, by go_num, rfl, Lib.hid (PY.out HC'), HB1, HO1⟩, by simp [intOf]; omega⟩
        | false =>
          have HC' := HC.out
          cases hbl : Op.bytesLess s.toList x.toList with
          | false =>
            have hown := HO.out
            go_wp2_with (at_builtin; refine halt_ ?_)
            unfold Halt_
            refine app_own Tryz.underlying27 str_info rfl (by decide) (by decide) rfl _ _ rfl wA.heap.size rfl (hown.alloc _) [.string x] rfl (heap_new1 _ _) rfl (str1 _) ?_ ?_ ?_
            · omega
            · have := HB.out.size; simp; omega
            intro a' cap' w3 hown' hgrow
            obtain ⟨q1, q2⟩ := own_push (x := x) HB.out hown hown' hgrow
            have HO1 := Lib.hid q1
            have HB1 := Lib.hid q2
            clear hown hown' hgrow q1 q2
            go_wp2_with fail
            exact ⟨⟨k + 1, false, ss ++ [x], by omega, by go_num, rfl, Lib.hid (PN.out HC' hbl), HB1, HO1⟩, by simp [intOf]; omega⟩
          | true =>
            have hown := HO.out
            go_wp2_with (at_builtin; refine halt_ ?_)
            unfold Halt_
            refine app_own Tryz.underlying27 str_info rfl (by decide) (by decide) rfl _ _ rfl wA.heap.size rfl (hown.alloc _) [.string s] rfl (heap_new1 _ _) rfl (str1 _) ?_ ?_ ?_
            · omega
            · have := HB.out.size; simp; omega
            intro a' cap' w3 hown' hgrow
            obtain ⟨q1, q2⟩ := own_push (x := s) HB.out hown hown' hgrow
            have HO1 := Lib.hid q1
            have HB1 := Lib.hid q2
            clear hown hown' hgrow q1 q2
            have hown := HO1.out
            go_wp2_with (at_builtin; refine halt_ ?_)
            unfold Halt_
            refine app_own Tryz.underlying27 str_info rfl (by decide) (by decide) rfl _ _ rfl wA.heap.size rfl (hown.alloc _) [.string x] rfl (heap_new1 _ _) rfl (str1 _) ?_ ?_ ?_
            · (simp only [List.length_append, List.length_cons, List.length_nil]; omega)
            · have := HB1.out.size; simp; omega
            intro a' cap' w3 hown' hgrow
            obtain ⟨q1, q2⟩ := own_push (x := x) HB1.out hown hown' hgrow
            have HO2 := Lib.hid q1
            have HB2 := Lib.hid q2
            clear hown hown' hgrow q1 q2
            go_wp2_with fail
            refine ⟨⟨k + 1, true, ss ++ [s] ++ [x], by omega, by go_num, rfl, Lib.hid (PP.out HC' hbl), HB2, Lib.hid (by have h := HO2.out; rw [show (ss ++ [s]).length + 1 = ss.length + 1 + 1 by simp] at h; exact h)⟩, by simp [intOf]; omega⟩
      · cases d with
        | true =>
          have HC' := HC.out
          have HSL := Lib.hid (Sl.of_own HO.out).a
          go_wp2
          go_ret
          exact ⟨_, rfl, by rw [INS.out, ← HC'.endT (by omega)]; exact HSL.out, HB.out⟩
        | false =>
          have HC' := HC.out
          have hown := HO.out
          go_wp2_with (at_builtin; refine halt_ ?_)
          unfold Halt_
          refine app_own Tryz.underlying27 str_info rfl (by decide) (by decide) rfl _ _ rfl wA.heap.size rfl (hown.alloc _) [.string s] rfl (heap_new1 _ _) rfl (str1 _) ?_ ?_ ?_
          · omega
          · have := HB.out.size; simp; omega
          intro a' cap' w3 hown' hgrow
          obtain ⟨q1, q2⟩ := own_push (x := s) HB.out hown hown' hgrow
          have HO1 := Lib.hid q1
          have HB1 := Lib.hid q2
          clear hown hown' hgrow q1 q2
          have HSL := Lib.hid (Sl.of_own HO1.out).a
          go_wp2
          go_ret
          exact ⟨_, rfl, by rw [INS.out, ← HC'.endF (by omega)]; exact HSL.out, HB1.out⟩
end Go.Proofs.YtomhekohcadijaaGreatDoor
