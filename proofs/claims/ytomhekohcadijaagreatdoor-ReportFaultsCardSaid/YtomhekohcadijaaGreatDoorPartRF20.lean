/- Plain laws of statements and their lines: what is parsed may be; what may be is parsed from its line. -/
import Derived.Test.YtomhekohcadijaaGreatDoorPartRF7
import Derived.Test.YtomhekohcadijaaGreatDoorPartRF8
namespace Go.Proofs.YtomhekohcadijaaGreatDoor

def okTok (t : Tok) : Prop := (t.kind = 1 → isP 65 90 t.text = true) ∧ (t.kind = 2 → isP 97 122 t.text = true)
theorem word_isP (lo hi : Int) (c : UInt8) (r : List UInt8) (hb : btw c.toNat lo hi = true) (ha : alnum c = true) (h8 : ¬ 8 < (wordOf (c :: r)).length) : isP lo hi (wordOf (c :: r)) = true := by
  have e : wordOf (c :: r) = c :: wordOf r := by simp [wordOf, List.takeWhile, ha]
  rw [e] at h8 ⊢
  have hall : (wordOf r).all alnum = true := by
    rw [List.all_eq_true]
    intro x hx
    exact List.all_eq_true.1 (List.all_takeWhile (p := alnum) (l := r)) x hx
  simp only [List.length_cons] at h8
  simp only [isP, hb, List.all_cons, ha, hall, List.length_cons, Bool.and_true, Bool.and_self, decide_eq_true_iff]
  omega
theorem ok_other (k : Int) (t : List UInt8) (p : Int) (h1 : ¬ k = 1) (h2 : ¬ k = 2) : okTok ⟨k, t, p⟩ := ⟨fun h => absurd h h1, fun h => absurd h h2⟩
theorem oneTok_cons (c : UInt8) (r : List UInt8) (p : Nat) : oneTok (c :: r) p =
    if c.toNat = 46 then ⟨3, [c], p + 1⟩ else if c.toNat = 38 then ⟨5, [c], p + 1⟩
    else if [60, 45].isPrefixOf (c :: r) then ⟨4, [60, 45], p + 1⟩
    else if btw c.toNat 65 90 then ⟨1, wordOf (c :: r), p + 1⟩ else if btw c.toNat 97 122 then ⟨2, wordOf (c :: r), p + 1⟩ else ⟨0, [c], p + 1⟩ := rfl
theorem oneTok_ok (l : List UInt8) (p : Nat) (h8 : ¬ 8 < (oneTok l p).text.length) : okTok (oneTok l p) := by
  match l, h8 with
  | [], _ => exact ok_other 0 _ _ (by decide) (by decide)
  | c :: r, h8 =>
    rw [oneTok_cons] at h8 ⊢
    by_cases h1 : c.toNat = 46
    · rw [if_pos h1]; exact ok_other 3 _ _ (by decide) (by decide)
    rw [if_neg h1] at h8 ⊢
    by_cases h2 : c.toNat = 38
    · rw [if_pos h2]; exact ok_other 5 _ _ (by decide) (by decide)
    rw [if_neg h2] at h8 ⊢
    by_cases h3 : [60, 45].isPrefixOf (c :: r) = true
    · rw [if_pos h3]; exact ok_other 4 _ _ (by decide) (by decide)
    rw [if_neg h3] at h8 ⊢
    by_cases h4 : btw c.toNat 65 90 = true
    · rw [if_pos h4] at h8 ⊢
      exact ⟨fun _ => word_isP 65 90 c r h4 (by simp [alnum, h4]) h8, fun h => absurd h (show ¬ (1 : Int) = 2 by decide)⟩
    rw [if_neg h4] at h8 ⊢
    by_cases h5 : btw c.toNat 97 122 = true
    · rw [if_pos h5] at h8 ⊢
      exact ⟨fun h => absurd h (show ¬ (2 : Int) = 1 by decide), fun _ => word_isP 97 122 c r h5 (by simp [alnum, h5]) h8⟩
    · rw [if_neg h5]; exact ok_other 0 _ _ (by decide) (by decide)
theorem toks_ok : ∀ (f : Nat) (l : List UInt8) (p : Nat) (acc : List Tok), (∀ t ∈ acc, okTok t) → ∀ t ∈ (toks f l p acc).1, okTok t
  | 0, l, p, acc, h => by
    have : toks 0 l p acc = (acc, 0, 0) := by unfold toks; rfl
    rw [this]; exact h
  | f + 1, [], p, acc, h => by rw [toks_nil]; exact h
  | f + 1, c :: r, p, acc, h => by
    by_cases hc : c.toNat = 32
    · rw [toks_space _ _ _ _ _ hc]; exact toks_ok f r (p + 1) acc h
    by_cases hk : (oneTok (c :: r) p).kind = 0
    · rw [toks_bad _ _ _ _ _ hc hk]; intro t ht; cases ht
    by_cases hl : 8 < (oneTok (c :: r) p).text.length
    · rw [toks_long _ _ _ _ _ hc hk hl]; intro t ht; cases ht
    · rw [toks_go _ _ _ _ _ hc hk hl]
      refine toks_ok f _ _ _ fun t ht => ?_
      rcases List.mem_append.1 ht with h' | h'
      · exact h t h'
      · rw [List.mem_singleton.1 h']; exact oneTok_ok _ _ hl
theorem tokens_ok (l : List UInt8) : ∀ t ∈ (tokens l).1, okTok t := by
  unfold tokens
  split
  · intro t ht; cases ht
  · exact toks_ok _ _ _ _ (fun t ht => by cases ht)

theorem right_normal (h : Rl) (a b : Rl) (hh : isRole h = true) (ha : isRole a = true) (hb : isRole b = true) : rightS (normalS ⟨4, h, emp, a, b, emp⟩) = true := by
  unfold normalS
  by_cases hl : lessR b a = true
  · rw [if_pos ⟨rfl, hl⟩]
    show rightS ⟨4, h, emp, b, a, emp⟩ = true
    rw [rightS4, hh, ha, hb, less_no hl, eqSt_self]; rfl
  · rw [if_neg (fun x => hl x.2), rightS4, hh, ha, hb, eqSt_self]
    simp only [Bool.not_eq_true] at hl
    rw [hl]; rfl
theorem fits_pos {t : Tok} {l : List Tok} {k : Int} {s : List Int} {n : Nat} (h : fitsS (t :: l) (k :: s) = n + 1) : t.kind = k ∧ fitsS l s = n := by
  rw [fits_cons] at h
  by_cases hk : t.kind = k
  · rw [if_pos hk] at h; exact ⟨hk, by omega⟩
  · rw [if_neg hk] at h; omega
theorem isRole_of {o n : Tok} {a b : ByteArray} (ho : okTok o) (hn : okTok n) (h1 : o.kind = 1) (h2 : n.kind = 2) (ea : bl a = o.text) (eb : bl b = n.text) : isRole ⟨a, b⟩ = true := by
  simp only [isRole, ea, eb, ho.1 h1, hn.2 h2]; rfl
theorem bl_mk (l : List UInt8) : bl ⟨l.toArray⟩ = l := by simp [bl]
theorem len5 {α : Type} {l : List α} (h : l.length = 5) : ∃ t0 t1 t2 t3 t4, l = [t0, t1, t2, t3, t4] := by
  match l, h with
  | [t0, t1, t2, t3, t4], _ => exact ⟨t0, t1, t2, t3, t4, rfl⟩
theorem len7 {α : Type} {l : List α} (h : l.length = 7) : ∃ t0 t1 t2 t3 t4 t5 t6, l = [t0, t1, t2, t3, t4, t5, t6] := by
  match l, h with
  | [t0, t1, t2, t3, t4, t5, t6], _ => exact ⟨t0, t1, t2, t3, t4, t5, t6, rfl⟩
theorem len9 {α : Type} {l : List α} (h : l.length = 9) : ∃ t0 t1 t2 t3 t4 t5 t6 t7 t8, l = [t0, t1, t2, t3, t4, t5, t6, t7, t8] := by
  match l, h with
  | [t0, t1, t2, t3, t4, t5, t6, t7, t8], _ => exact ⟨t0, t1, t2, t3, t4, t5, t6, t7, t8, rfl⟩
theorem len11 {α : Type} {l : List α} (h : l.length = 11) : ∃ t0 t1 t2 t3 t4 t5 t6 t7 t8 t9 t10, l = [t0, t1, t2, t3, t4, t5, t6, t7, t8, t9, t10] := by
  match l, h with
  | [t0, t1, t2, t3, t4, t5, t6, t7, t8, t9, t10], _ => exact ⟨t0, t1, t2, t3, t4, t5, t6, t7, t8, t9, t10, rfl⟩
theorem refS_right (l : List Tok) (e : Int) (ho : ∀ t ∈ l, okTok t) (h : (refS l e).2.2 = 0) : rightS (refS l e).1 = true := by
  unfold refS at h ⊢
  by_cases h1 : fitsS l sh1 = l.length ∧ fitsS l sh1 = 5
  · rw [if_pos h1]
    obtain ⟨a1, a2⟩ := h1
    obtain ⟨t0, t1, t2, t3, t4, rfl⟩ := len5 (a1.symm.trans a2)
    obtain ⟨k0, a2⟩ := fits_pos (n := 4) a2
    obtain ⟨k1, a2⟩ := fits_pos (n := 3) a2
    obtain ⟨k2, a2⟩ := fits_pos (n := 2) a2
    obtain ⟨k3, a2⟩ := fits_pos (n := 1) a2
    obtain ⟨k4, a2⟩ := fits_pos (n := 0) a2
    simp only [tx, List.getD_eq_getElem?_getD, List.getElem?_cons_zero, List.getElem?_cons_succ, Option.getD_some]
    rw [rightS1, isRole_of (ho t0 (by simp)) (ho t2 (by simp)) k0 k2 (bl_mk _) (bl_mk _), bl_mk, (ho t4 (by simp)).1 k4, eqSt_self]; rfl
  rw [if_neg h1] at h ⊢
  by_cases h2 : fitsS l sh2 = l.length ∧ fitsS l sh2 = 7
  · rw [if_pos h2]
    obtain ⟨a1, a2⟩ := h2
    obtain ⟨t0, t1, t2, t3, t4, t5, t6, rfl⟩ := len7 (a1.symm.trans a2)
    obtain ⟨k0, a2⟩ := fits_pos (n := 6) a2
    obtain ⟨k1, a2⟩ := fits_pos (n := 5) a2
    obtain ⟨k2, a2⟩ := fits_pos (n := 4) a2
    obtain ⟨k3, a2⟩ := fits_pos (n := 3) a2
    obtain ⟨k4, a2⟩ := fits_pos (n := 2) a2
    obtain ⟨k5, a2⟩ := fits_pos (n := 1) a2
    obtain ⟨k6, a2⟩ := fits_pos (n := 0) a2
    simp only [tx, List.getD_eq_getElem?_getD, List.getElem?_cons_zero, List.getElem?_cons_succ, Option.getD_some]
    rw [rightS2, isRole_of (ho t0 (by simp)) (ho t2 (by simp)) k0 k2 (bl_mk _) (bl_mk _), isRole_of (ho t4 (by simp)) (ho t6 (by simp)) k4 k6 (bl_mk _) (bl_mk _), eqSt_self]; rfl
  rw [if_neg h2] at h ⊢
  by_cases h3 : fitsS l sh3 = l.length ∧ fitsS l sh3 = 9
  · rw [if_pos h3]
    obtain ⟨a1, a2⟩ := h3
    obtain ⟨t0, t1, t2, t3, t4, t5, t6, t7, t8, rfl⟩ := len9 (a1.symm.trans a2)
    obtain ⟨k0, a2⟩ := fits_pos (n := 8) a2
    obtain ⟨k1, a2⟩ := fits_pos (n := 7) a2
    obtain ⟨k2, a2⟩ := fits_pos (n := 6) a2
    obtain ⟨k3, a2⟩ := fits_pos (n := 5) a2
    obtain ⟨k4, a2⟩ := fits_pos (n := 4) a2
    obtain ⟨k5, a2⟩ := fits_pos (n := 3) a2
    obtain ⟨k6, a2⟩ := fits_pos (n := 2) a2
    obtain ⟨k7, a2⟩ := fits_pos (n := 1) a2
    obtain ⟨k8, a2⟩ := fits_pos (n := 0) a2
    simp only [tx, List.getD_eq_getElem?_getD, List.getElem?_cons_zero, List.getElem?_cons_succ, Option.getD_some]
    rw [rightS3, isRole_of (ho t0 (by simp)) (ho t2 (by simp)) k0 k2 (bl_mk _) (bl_mk _), isRole_of (ho t4 (by simp)) (ho t6 (by simp)) k4 k6 (bl_mk _) (bl_mk _), bl_mk, (ho t8 (by simp)).2 k8, eqSt_self]; rfl
  rw [if_neg h3] at h ⊢
  by_cases h4 : fitsS l sh4 = l.length ∧ fitsS l sh4 = 11
  · rw [if_pos h4]
    obtain ⟨a1, a2⟩ := h4
    obtain ⟨t0, t1, t2, t3, t4, t5, t6, t7, t8, t9, t10, rfl⟩ := len11 (a1.symm.trans a2)
    obtain ⟨k0, a2⟩ := fits_pos (n := 10) a2
    obtain ⟨k1, a2⟩ := fits_pos (n := 9) a2
    obtain ⟨k2, a2⟩ := fits_pos (n := 8) a2
    obtain ⟨k3, a2⟩ := fits_pos (n := 7) a2
    obtain ⟨k4, a2⟩ := fits_pos (n := 6) a2
    obtain ⟨k5, a2⟩ := fits_pos (n := 5) a2
    obtain ⟨k6, a2⟩ := fits_pos (n := 4) a2
    obtain ⟨k7, a2⟩ := fits_pos (n := 3) a2
    obtain ⟨k8, a2⟩ := fits_pos (n := 2) a2
    obtain ⟨k9, a2⟩ := fits_pos (n := 1) a2
    obtain ⟨k10, a2⟩ := fits_pos (n := 0) a2
    simp only [tx, List.getD_eq_getElem?_getD, List.getElem?_cons_zero, List.getElem?_cons_succ, Option.getD_some]
    exact right_normal _ _ _ (isRole_of (ho t0 (by simp)) (ho t2 (by simp)) k0 k2 (bl_mk _) (bl_mk _)) (isRole_of (ho t4 (by simp)) (ho t6 (by simp)) k4 k6 (bl_mk _) (bl_mk _)) (isRole_of (ho t8 (by simp)) (ho t10 (by simp)) k8 k10 (bl_mk _) (bl_mk _))
  rw [if_neg h4] at h
  unfold refEnd at h
  split at h <;> cases h
theorem parse_right (s : ByteArray) (h : (parseS s).2.2 = 0) : rightS (parseS s).1 = true := by
  unfold parseS at h ⊢
  by_cases h0 : (tokens (bl s)).2.2 = 0
  · have e : parseT (tokens (bl s)) (endOf s) = refS (tokens (bl s)).1 (endOf s) := (parseT_good h0).trans (law_parse _ _)
    rw [e] at h ⊢
    exact refS_right _ _ (tokens_ok _) h
  · rw [parseT_bad h0] at h; exact absurd h h0

def stops (l : List UInt8) : Prop := ∀ c, l.head? = some c → alnum c = false
theorem wordOf_app (w r : List UInt8) (hw : w.all alnum = true) (hr : stops r) : wordOf (w ++ r) = w := by
  unfold wordOf
  rw [List.takeWhile_append_of_pos (by simpa using hw)]
  cases r with
  | nil => simp
  | cons c r =>
    have : alnum c = false := hr c rfl
    simp [List.takeWhile, this]
theorem btw_of {c : UInt8} {lo hi : Int} (h : btw c.toNat lo hi = true) : lo ≤ c.toNat ∧ (c.toNat : Int) ≤ hi := by simpa [btw] using h
theorem toks_big (w r : List UInt8) (f p : Nat) (acc : List Tok) (hw : isP 65 90 w = true) (hr : stops r) : toks (f + 1) (w ++ r) p acc = toks f r (p + w.length) (acc ++ [⟨1, w, p + 1⟩]) := by
  match w, hw with
  | c :: w, hw =>
    simp only [isP, Bool.and_eq_true, decide_eq_true_iff] at hw
    obtain ⟨⟨hl, hb⟩, ha⟩ := hw
    obtain ⟨b1, b2⟩ := btw_of hb
    have e : wordOf (c :: (w ++ r)) = c :: w := by rw [← List.cons_append]; exact wordOf_app _ _ ha hr
    have hp : ¬ [60, 45].isPrefixOf (c :: (w ++ r)) = true := by
      intro x
      have : (60 : UInt8) = c := by simp only [List.isPrefixOf, Bool.and_eq_true, beq_iff_eq] at x; exact x.1
      subst this; exact absurd b1 (by decide)
    have ht : oneTok (c :: (w ++ r)) p = ⟨1, c :: w, p + 1⟩ := by
      rw [oneTok_cons, if_neg (by omega), if_neg (by omega), if_neg hp, if_pos hb, e]
    rw [List.cons_append, toks_go _ _ _ _ _ (by omega) (by rw [ht]; exact (show ¬ (1 : Int) = 0 by decide)) (by rw [ht]; simp only [List.length_cons] at hl ⊢; omega), ht]
    rw [← List.cons_append]
    simp
theorem toks_small (w r : List UInt8) (f p : Nat) (acc : List Tok) (hw : isP 97 122 w = true) (hr : stops r) : toks (f + 1) (w ++ r) p acc = toks f r (p + w.length) (acc ++ [⟨2, w, p + 1⟩]) := by
  match w, hw with
  | c :: w, hw =>
    simp only [isP, Bool.and_eq_true, decide_eq_true_iff] at hw
    obtain ⟨⟨hl, hb⟩, ha⟩ := hw
    obtain ⟨b1, b2⟩ := btw_of hb
    have e : wordOf (c :: (w ++ r)) = c :: w := by rw [← List.cons_append]; exact wordOf_app _ _ ha hr
    have hp : ¬ [60, 45].isPrefixOf (c :: (w ++ r)) = true := by
      intro x
      have : (60 : UInt8) = c := by simp only [List.isPrefixOf, Bool.and_eq_true, beq_iff_eq] at x; exact x.1
      subst this; exact absurd b1 (by decide)
    have hb2 : ¬ btw c.toNat 65 90 = true := fun h => by have := (btw_of h).2; omega
    have ht : oneTok (c :: (w ++ r)) p = ⟨2, c :: w, p + 1⟩ := by
      rw [oneTok_cons, if_neg (by omega), if_neg (by omega), if_neg hp, if_neg hb2, if_pos hb, e]
    rw [List.cons_append, toks_go _ _ _ _ _ (by omega) (by rw [ht]; exact (show ¬ (2 : Int) = 0 by decide)) (by rw [ht]; simp only [List.length_cons] at hl ⊢; omega), ht]
    rw [← List.cons_append]
    simp
theorem toks_dot (r : List UInt8) (f p : Nat) (acc : List Tok) : toks (f + 1) (46 :: r) p acc = toks f r (p + 1) (acc ++ [⟨3, [46], p + 1⟩]) := by
  have ht : oneTok (46 :: r) p = ⟨3, [46], p + 1⟩ := rfl
  rw [toks_go _ _ _ _ _ (by decide) (by rw [ht]; exact (show ¬ (3 : Int) = 0 by decide)) (by rw [ht]; exact (show ¬ 8 < 1 by decide)), ht]; rfl
theorem toks_amp (r : List UInt8) (f p : Nat) (acc : List Tok) : toks (f + 1) (38 :: r) p acc = toks f r (p + 1) (acc ++ [⟨5, [38], p + 1⟩]) := by
  have ht : oneTok (38 :: r) p = ⟨5, [38], p + 1⟩ := rfl
  rw [toks_go _ _ _ _ _ (by decide) (by rw [ht]; exact (show ¬ (5 : Int) = 0 by decide)) (by rw [ht]; exact (show ¬ 8 < 1 by decide)), ht]; rfl
theorem toks_arrow (r : List UInt8) (f p : Nat) (acc : List Tok) : toks (f + 1) (60 :: 45 :: r) p acc = toks f r (p + 2) (acc ++ [⟨4, [60, 45], p + 1⟩]) := by
  have ht : oneTok (60 :: 45 :: r) p = ⟨4, [60, 45], p + 1⟩ := by simp [oneTok, List.isPrefixOf]
  rw [toks_go _ _ _ _ _ (by decide) (by rw [ht]; exact (show ¬ (4 : Int) = 0 by decide)) (by rw [ht]; exact (show ¬ 8 < 2 by decide)), ht]; rfl
theorem toks_blank (r : List UInt8) (f p : Nat) (acc : List Tok) : toks (f + 1) (32 :: r) p acc = toks f r (p + 1) acc := toks_space _ _ _ _ _ (by decide)
theorem stops_nil : stops [] := fun c h => by cases h
theorem stops_cons {c : UInt8} (r : List UInt8) (h : alnum c = false) : stops (c :: r) := fun d hd => by cases hd; exact h
theorem isP_len {lo hi : Int} {w : List UInt8} (h : isP lo hi w = true) : 1 ≤ w.length ∧ w.length ≤ 8 := by
  match w, h with
  | c :: w, h =>
    simp only [isP, Bool.and_eq_true, decide_eq_true_iff] at h
    exact ⟨by simp, h.1.1⟩
theorem isP_plain {lo hi : Int} {w : List UInt8} (h : isP lo hi w = true) : ∀ c ∈ w, ¬ c = 35 := by
  match w, h with
  | c :: w, h =>
    simp only [isP, Bool.and_eq_true, decide_eq_true_iff] at h
    intro x hx e
    have := List.all_eq_true.1 h.2 x hx
    rw [e] at this
    exact absurd this (by decide)
theorem bare_same {l : List UInt8} (h : ∀ c ∈ l, ¬ c = 35) : bare l = l := by
  unfold bare
  induction l with
  | nil => rfl
  | cons a r ih =>
    have ha : (!(a == 35)) = true := by simp [h a (by simp)]
    simp only [List.takeWhile, ha]
    rw [ih (fun c hc => h c (by simp [hc]))]
theorem parse_tokens {s : ByteArray} {l : List Tok} (h : tokens (bl s) = (l, 0, 0)) : parseS s = refS l (endOf s) := by
  unfold parseS
  rw [h]
  exact (parseT_good rfl).trans (law_parse _ _)
theorem isRole_iff (o n : ByteArray) : isRole ⟨o, n⟩ = true ↔ isP 65 90 (bl o) = true ∧ isP 97 122 (bl n) = true := by simp [isRole]
theorem bl_inj2 {l : List UInt8} {a : ByteArray} (h : l = bl a) : (⟨l.toArray⟩ : ByteArray) = a := bl_inj.1 (by rw [bl_mk, h])
theorem ba_bl (a : ByteArray) : (⟨(bl a).toArray⟩ : ByteArray) = a := bl_inj2 rfl
theorem norm_keep (h : Rl) (a b : Rl) (hl : lessR b a = false) : normalS ⟨4, h, emp, a, b, emp⟩ = ⟨4, h, emp, a, b, emp⟩ := by
  unfold normalS; rw [if_neg (fun x => by rw [hl] at x; cases x.2)]
theorem a46 : alnum 46 = false := by decide
theorem a32 : alnum 32 = false := by decide
set_option maxHeartbeats 2000000 in
theorem parse_print (s : St) (h : rightS s = true) : parseS (printS s) = (s, 0, 0) := by
  obtain ⟨k, ⟨h1, h2⟩, who, ⟨a1, a2⟩, ⟨b1, b2⟩, via⟩ := s
  have hr := h
  by_cases k1 : k = 1
  · subst k1
    rw [rightS1] at h
    simp only [Bool.and_eq_true, isRole_iff, eqSt, decide_eq_true_iff, St.mk.injEq, true_and] at h
    obtain ⟨⟨⟨ho, hn⟩, hw⟩, ea, eb, rfl⟩ := h
    obtain ⟨l1, l2⟩ := isP_len ho; obtain ⟨l3, l4⟩ := isP_len hn; obtain ⟨l5, l6⟩ := isP_len hw
    have hb : bl (printS ⟨1, ⟨h1, h2⟩, who, ⟨a1, a2⟩, ⟨b1, b2⟩, emp⟩) = bl h1 ++ 46 :: (bl h2 ++ 32 :: 60 :: 45 :: 32 :: (bl who ++ [])) := by
      unfold printS; rw [if_pos hr]; simp [roleT, bl]
    have ht : ∃ c1 c2 c3 c4 : Int, tokens (bl (printS ⟨1, ⟨h1, h2⟩, who, ⟨a1, a2⟩, ⟨b1, b2⟩, emp⟩)) = ([⟨1, bl h1, 0 + 1⟩, ⟨3, [46], c1⟩, ⟨2, bl h2, c2⟩, ⟨4, [60, 45], c3⟩, ⟨1, bl who, c4⟩], 0, 0) := by
      rw [hb]
      unfold tokens
      have hp : bare (bl h1 ++ 46 :: (bl h2 ++ 32 :: 60 :: 45 :: 32 :: (bl who ++ []))) = bl h1 ++ 46 :: (bl h2 ++ 32 :: 60 :: 45 :: 32 :: (bl who ++ [])) := by
        refine bare_same fun c hc => ?_
        simp only [List.mem_append, List.mem_cons, List.not_mem_nil, or_false] at hc
        rcases hc with hc | rfl | hc | rfl | rfl | rfl | rfl | hc <;> first | exact isP_plain ho c hc | exact isP_plain hn c hc | exact isP_plain hw c hc | decide
      rw [hp, if_neg (by simp only [List.length_append, List.length_cons, List.length_nil]; omega)]
      obtain ⟨x, hx⟩ : ∃ x, (bl h1 ++ 46 :: (bl h2 ++ 32 :: 60 :: 45 :: 32 :: (bl who ++ []))).length = x + 1 + 1 + 1 + 1 + 1 + 1 + 1 := ⟨(bl h1 ++ 46 :: (bl h2 ++ 32 :: 60 :: 45 :: 32 :: (bl who ++ []))).length - 7, by simp only [List.length_append, List.length_cons, List.length_nil]; omega⟩
      rw [hx, toks_big _ _ _ _ _ ho (stops_cons _ a46), toks_dot, toks_small _ _ _ _ _ hn (stops_cons _ a32), toks_blank, toks_arrow, toks_blank, toks_big _ _ _ _ _ hw stops_nil, toks_nil]
      exact ⟨_, _, _, _, rfl⟩
    obtain ⟨c1, c2, c3, c4, ht⟩ := ht
    rw [parse_tokens ht, ea, eb]
    simp [refS, fits_cons, fits_end, sh1, tx]
  by_cases k2 : k = 2
  · subst k2
    rw [rightS2] at h
    simp only [Bool.and_eq_true, isRole_iff, eqSt, decide_eq_true_iff, St.mk.injEq, true_and] at h
    obtain ⟨⟨⟨ho, hn⟩, ha, hc⟩, rfl, eb, rfl⟩ := h
    obtain ⟨l1, l2⟩ := isP_len ho; obtain ⟨l3, l4⟩ := isP_len hn; obtain ⟨l5, l6⟩ := isP_len ha; obtain ⟨l7, l8⟩ := isP_len hc
    have hb : bl (printS ⟨2, ⟨h1, h2⟩, emp, ⟨a1, a2⟩, ⟨b1, b2⟩, emp⟩) = bl h1 ++ 46 :: (bl h2 ++ 32 :: 60 :: 45 :: 32 :: (bl a1 ++ 46 :: (bl a2 ++ []))) := by
      unfold printS; rw [if_pos hr]; simp [roleT, bl]
    have ht : ∃ c1 c2 c3 c4 c5 c6 : Int, tokens (bl (printS ⟨2, ⟨h1, h2⟩, emp, ⟨a1, a2⟩, ⟨b1, b2⟩, emp⟩)) = ([⟨1, bl h1, 0 + 1⟩, ⟨3, [46], c1⟩, ⟨2, bl h2, c2⟩, ⟨4, [60, 45], c3⟩, ⟨1, bl a1, c4⟩, ⟨3, [46], c5⟩, ⟨2, bl a2, c6⟩], 0, 0) := by
      rw [hb]
      unfold tokens
      have hp : bare (bl h1 ++ 46 :: (bl h2 ++ 32 :: 60 :: 45 :: 32 :: (bl a1 ++ 46 :: (bl a2 ++ [])))) = bl h1 ++ 46 :: (bl h2 ++ 32 :: 60 :: 45 :: 32 :: (bl a1 ++ 46 :: (bl a2 ++ []))) := by
        refine bare_same fun c hc' => ?_
        simp only [List.mem_append, List.mem_cons, List.not_mem_nil, or_false] at hc'
        rcases hc' with hc' | rfl | hc' | rfl | rfl | rfl | rfl | hc' | rfl | hc' <;> first | exact isP_plain ho c hc' | exact isP_plain hn c hc' | exact isP_plain ha c hc' | exact isP_plain hc c hc' | decide
      rw [hp, if_neg (by simp only [List.length_append, List.length_cons, List.length_nil]; omega)]
      obtain ⟨x, hx⟩ : ∃ x, (bl h1 ++ 46 :: (bl h2 ++ 32 :: 60 :: 45 :: 32 :: (bl a1 ++ 46 :: (bl a2 ++ [])))).length = x + 1 + 1 + 1 + 1 + 1 + 1 + 1 + 1 + 1 := ⟨(bl h1 ++ 46 :: (bl h2 ++ 32 :: 60 :: 45 :: 32 :: (bl a1 ++ 46 :: (bl a2 ++ [])))).length - 9, by simp only [List.length_append, List.length_cons, List.length_nil]; omega⟩
      rw [hx, toks_big _ _ _ _ _ ho (stops_cons _ a46), toks_dot, toks_small _ _ _ _ _ hn (stops_cons _ a32), toks_blank, toks_arrow, toks_blank, toks_big _ _ _ _ _ ha (stops_cons _ a46), toks_dot, toks_small _ _ _ _ _ hc stops_nil, toks_nil]
      exact ⟨_, _, _, _, _, _, rfl⟩
    obtain ⟨c1, c2, c3, c4, c5, c6, ht⟩ := ht
    rw [parse_tokens ht, eb]
    simp [refS, fits_cons, fits_end, sh1, sh2, tx]
  by_cases k3 : k = 3
  · subst k3
    rw [rightS3] at h
    simp only [Bool.and_eq_true, isRole_iff, eqSt, decide_eq_true_iff, St.mk.injEq, true_and, and_true] at h
    obtain ⟨⟨⟨⟨ho, hn⟩, ha, hc⟩, hv⟩, rfl, eb⟩ := h
    obtain ⟨l1, l2⟩ := isP_len ho; obtain ⟨l3, l4⟩ := isP_len hn; obtain ⟨l5, l6⟩ := isP_len ha; obtain ⟨l7, l8⟩ := isP_len hc; obtain ⟨l9, l10⟩ := isP_len hv
    have hb : bl (printS ⟨3, ⟨h1, h2⟩, emp, ⟨a1, a2⟩, ⟨b1, b2⟩, via⟩) = bl h1 ++ 46 :: (bl h2 ++ 32 :: 60 :: 45 :: 32 :: (bl a1 ++ 46 :: (bl a2 ++ 46 :: (bl via ++ [])))) := by
      unfold printS; rw [if_pos hr]; simp [roleT, bl]
    have ht : ∃ c1 c2 c3 c4 c5 c6 c7 c8 : Int, tokens (bl (printS ⟨3, ⟨h1, h2⟩, emp, ⟨a1, a2⟩, ⟨b1, b2⟩, via⟩)) = ([⟨1, bl h1, 0 + 1⟩, ⟨3, [46], c1⟩, ⟨2, bl h2, c2⟩, ⟨4, [60, 45], c3⟩, ⟨1, bl a1, c4⟩, ⟨3, [46], c5⟩, ⟨2, bl a2, c6⟩, ⟨3, [46], c7⟩, ⟨2, bl via, c8⟩], 0, 0) := by
      rw [hb]
      unfold tokens
      have hp : bare (bl h1 ++ 46 :: (bl h2 ++ 32 :: 60 :: 45 :: 32 :: (bl a1 ++ 46 :: (bl a2 ++ 46 :: (bl via ++ []))))) = bl h1 ++ 46 :: (bl h2 ++ 32 :: 60 :: 45 :: 32 :: (bl a1 ++ 46 :: (bl a2 ++ 46 :: (bl via ++ [])))) := by
        refine bare_same fun c hc' => ?_
        simp only [List.mem_append, List.mem_cons, List.not_mem_nil, or_false] at hc'
        rcases hc' with hc' | rfl | hc' | rfl | rfl | rfl | rfl | hc' | rfl | hc' | rfl | hc' <;> first | exact isP_plain ho c hc' | exact isP_plain hn c hc' | exact isP_plain ha c hc' | exact isP_plain hc c hc' | exact isP_plain hv c hc' | decide
      rw [hp, if_neg (by simp only [List.length_append, List.length_cons, List.length_nil]; omega)]
      obtain ⟨x, hx⟩ : ∃ x, (bl h1 ++ 46 :: (bl h2 ++ 32 :: 60 :: 45 :: 32 :: (bl a1 ++ 46 :: (bl a2 ++ 46 :: (bl via ++ []))))).length = x + 1 + 1 + 1 + 1 + 1 + 1 + 1 + 1 + 1 + 1 + 1 := ⟨(bl h1 ++ 46 :: (bl h2 ++ 32 :: 60 :: 45 :: 32 :: (bl a1 ++ 46 :: (bl a2 ++ 46 :: (bl via ++ []))))).length - 11, by simp only [List.length_append, List.length_cons, List.length_nil]; omega⟩
      rw [hx, toks_big _ _ _ _ _ ho (stops_cons _ a46), toks_dot, toks_small _ _ _ _ _ hn (stops_cons _ a32), toks_blank, toks_arrow, toks_blank, toks_big _ _ _ _ _ ha (stops_cons _ a46), toks_dot, toks_small _ _ _ _ _ hc (stops_cons _ a46), toks_dot, toks_small _ _ _ _ _ hv stops_nil, toks_nil]
      exact ⟨_, _, _, _, _, _, _, _, rfl⟩
    obtain ⟨c1, c2, c3, c4, c5, c6, c7, c8, ht⟩ := ht
    rw [parse_tokens ht, eb]
    simp [refS, fits_cons, fits_end, sh1, sh2, sh3, tx]
  by_cases k4 : k = 4
  · subst k4
    rw [rightS4] at h
    simp only [Bool.and_eq_true, isRole_iff, eqSt, decide_eq_true_iff, St.mk.injEq, true_and, Bool.not_eq_true'] at h
    obtain ⟨⟨⟨⟨⟨ho, hn⟩, ha, hc⟩, hd, he⟩, hl⟩, rfl, rfl⟩ := h
    obtain ⟨l1, l2⟩ := isP_len ho; obtain ⟨l3, l4⟩ := isP_len hn; obtain ⟨l5, l6⟩ := isP_len ha; obtain ⟨l7, l8⟩ := isP_len hc; obtain ⟨l9, l10⟩ := isP_len hd; obtain ⟨l11, l12⟩ := isP_len he
    have hb : bl (printS ⟨4, ⟨h1, h2⟩, emp, ⟨a1, a2⟩, ⟨b1, b2⟩, emp⟩) = bl h1 ++ 46 :: (bl h2 ++ 32 :: 60 :: 45 :: 32 :: (bl a1 ++ 46 :: (bl a2 ++ 32 :: 38 :: 32 :: (bl b1 ++ 46 :: (bl b2 ++ []))))) := by
      unfold printS; rw [if_pos hr]; simp [roleT, bl]
    have ht : ∃ c1 c2 c3 c4 c5 c6 c7 c8 c9 c10 : Int, tokens (bl (printS ⟨4, ⟨h1, h2⟩, emp, ⟨a1, a2⟩, ⟨b1, b2⟩, emp⟩)) = ([⟨1, bl h1, 0 + 1⟩, ⟨3, [46], c1⟩, ⟨2, bl h2, c2⟩, ⟨4, [60, 45], c3⟩, ⟨1, bl a1, c4⟩, ⟨3, [46], c5⟩, ⟨2, bl a2, c6⟩, ⟨5, [38], c7⟩, ⟨1, bl b1, c8⟩, ⟨3, [46], c9⟩, ⟨2, bl b2, c10⟩], 0, 0) := by
      rw [hb]
      unfold tokens
      have hp : bare (bl h1 ++ 46 :: (bl h2 ++ 32 :: 60 :: 45 :: 32 :: (bl a1 ++ 46 :: (bl a2 ++ 32 :: 38 :: 32 :: (bl b1 ++ 46 :: (bl b2 ++ [])))))) = bl h1 ++ 46 :: (bl h2 ++ 32 :: 60 :: 45 :: 32 :: (bl a1 ++ 46 :: (bl a2 ++ 32 :: 38 :: 32 :: (bl b1 ++ 46 :: (bl b2 ++ []))))) := by
        refine bare_same fun c hc' => ?_
        simp only [List.mem_append, List.mem_cons, List.not_mem_nil, or_false] at hc'
        rcases hc' with hc' | rfl | hc' | rfl | rfl | rfl | rfl | hc' | rfl | hc' | rfl | rfl | rfl | hc' | rfl | hc' <;> first | exact isP_plain ho c hc' | exact isP_plain hn c hc' | exact isP_plain ha c hc' | exact isP_plain hc c hc' | exact isP_plain hd c hc' | exact isP_plain he c hc' | decide
      rw [hp, if_neg (by simp only [List.length_append, List.length_cons, List.length_nil]; omega)]
      obtain ⟨x, hx⟩ : ∃ x, (bl h1 ++ 46 :: (bl h2 ++ 32 :: 60 :: 45 :: 32 :: (bl a1 ++ 46 :: (bl a2 ++ 32 :: 38 :: 32 :: (bl b1 ++ 46 :: (bl b2 ++ [])))))).length = x + 1 + 1 + 1 + 1 + 1 + 1 + 1 + 1 + 1 + 1 + 1 + 1 + 1 + 1 + 1 := ⟨(bl h1 ++ 46 :: (bl h2 ++ 32 :: 60 :: 45 :: 32 :: (bl a1 ++ 46 :: (bl a2 ++ 32 :: 38 :: 32 :: (bl b1 ++ 46 :: (bl b2 ++ [])))))).length - 15, by simp only [List.length_append, List.length_cons, List.length_nil]; omega⟩
      rw [hx, toks_big _ _ _ _ _ ho (stops_cons _ a46), toks_dot, toks_small _ _ _ _ _ hn (stops_cons _ a32), toks_blank, toks_arrow, toks_blank, toks_big _ _ _ _ _ ha (stops_cons _ a46), toks_dot, toks_small _ _ _ _ _ hc (stops_cons _ a32), toks_blank, toks_amp, toks_blank, toks_big _ _ _ _ _ hd (stops_cons _ a46), toks_dot, toks_small _ _ _ _ _ he stops_nil, toks_nil]
      exact ⟨_, _, _, _, _, _, _, _, _, _, rfl⟩
    obtain ⟨c1, c2, c3, c4, c5, c6, c7, c8, c9, c10, ht⟩ := ht
    rw [parse_tokens ht]
    have hk := norm_keep ⟨h1, h2⟩ ⟨a1, a2⟩ ⟨b1, b2⟩ hl
    simp [refS, fits_cons, fits_end, sh1, sh2, sh3, sh4, tx, hk]
  rw [rightS0 _ _ _ _ _ _ k1 k2 k3 k4] at hr
  cases hr
end Go.Proofs.YtomhekohcadijaaGreatDoor
