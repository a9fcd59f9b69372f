/- What the tokens of a line are, in plain Lean: no program in sight. -/
import Derived.Test.YtmpanikeeeoikaaPlain
import Derived.Lib.IndexMore
namespace Go.Proofs.Ytmpanikeeeoikaa
open Go.RowKit

structure Tok where
  kind : Int
  text : List UInt8
  col : Int
def Tok.cells (t : Tok) : List Value := [.int .i64 t.kind, .string ⟨t.text.toArray⟩, .int .i64 t.col]
theorem Tok.cells_len (t : Tok) : t.cells.length = 3 := rfl

/-- A line without its comment. -/
def bare (l : List UInt8) : List UInt8 := l.takeWhile (fun c => !(c == 35))

def wordOf (l : List UInt8) : List UInt8 := l.takeWhile alnum
def oneTok (l : List UInt8) (p : Nat) : Tok := match l with
  | [] => ⟨0, [], p + 1⟩
  | c :: r =>
    if c.toNat = 46 then ⟨3, [c], p + 1⟩ else if c.toNat = 38 then ⟨5, [c], p + 1⟩
    else if [60, 45].isPrefixOf (c :: r) then ⟨4, [60, 45], p + 1⟩
    else if btw c.toNat 65 90 then ⟨1, wordOf (c :: r), p + 1⟩ else if btw c.toNat 97 122 then ⟨2, wordOf (c :: r), p + 1⟩ else ⟨0, [c], p + 1⟩

/-- The tokens of what is left of a line from a place on, behind those that stand: or what is wrong first, and where. -/
def toks : Nat → List UInt8 → Nat → List Tok → List Tok × Int × Int
  | 0, _, _, acc => (acc, 0, 0)
  | _ + 1, [], _, acc => (acc, 0, 0)
  | f + 1, c :: r, p, acc =>
    if c.toNat = 32 then toks f r (p + 1) acc
    else if (oneTok (c :: r) p).kind = 0 then ([], (oneTok (c :: r) p).col, 1)
    else if 8 < (oneTok (c :: r) p).text.length then ([], (oneTok (c :: r) p).col, 4)
    else toks f ((c :: r).drop (oneTok (c :: r) p).text.length) (p + (oneTok (c :: r) p).text.length) (acc ++ [oneTok (c :: r) p])

/-- The tokens of a line. -/
def tokens (l : List UInt8) : List Tok × Int × Int := if 200 < l.length then ([], 201, 4) else toks (bare l).length (bare l) 0 []

theorem toks_nil (f p : Nat) (acc : List Tok) : toks f [] p acc = (acc, 0, 0) := by cases f <;> rfl
theorem toks_space (f : Nat) (c : UInt8) (r : List UInt8) (p : Nat) (acc : List Tok) (h : c.toNat = 32) : toks (f + 1) (c :: r) p acc = toks f r (p + 1) acc := by simp [toks, h]
theorem toks_bad (f : Nat) (c : UInt8) (r : List UInt8) (p : Nat) (acc : List Tok) (h : ¬ c.toNat = 32) (hk : (oneTok (c :: r) p).kind = 0) : toks (f + 1) (c :: r) p acc = ([], (oneTok (c :: r) p).col, 1) := by simp [toks, h, hk]
theorem toks_long (f : Nat) (c : UInt8) (r : List UInt8) (p : Nat) (acc : List Tok) (h : ¬ c.toNat = 32) (hk : ¬ (oneTok (c :: r) p).kind = 0) (hl : 8 < (oneTok (c :: r) p).text.length) : toks (f + 1) (c :: r) p acc = ([], (oneTok (c :: r) p).col, 4) := by simp [toks, h, hk, hl]
theorem toks_go (f : Nat) (c : UInt8) (r : List UInt8) (p : Nat) (acc : List Tok) (h : ¬ c.toNat = 32) (hk : ¬ (oneTok (c :: r) p).kind = 0) (hl : ¬ 8 < (oneTok (c :: r) p).text.length) :
    toks (f + 1) (c :: r) p acc = toks f ((c :: r).drop (oneTok (c :: r) p).text.length) (p + (oneTok (c :: r) p).text.length) (acc ++ [oneTok (c :: r) p]) := by simp [toks, h, hk]; omega

theorem takeWhile_le (q : UInt8 → Bool) (l : List UInt8) : (l.takeWhile q).length ≤ l.length := by
  induction l with
  | nil => simp
  | cons a r ih => simp only [List.takeWhile]; split <;> simp <;> omega
theorem wordOf_le (l : List UInt8) : (wordOf l).length ≤ l.length := takeWhile_le _ l
theorem bare_le (l : List UInt8) : (bare l).length ≤ l.length := takeWhile_le _ l
theorem takeWhile_take (q : UInt8 → Bool) (l : List UInt8) : l.takeWhile q = l.take (l.takeWhile q).length := by
  induction l with
  | nil => simp
  | cons a r ih => simp only [List.takeWhile]; split <;> simp <;> exact ih
/-- How far a word goes: k bytes of it stand, and the next one belongs to it, or doesn't. -/
theorem takeWhile_count (q : UInt8 → Bool) (l : List UInt8) (k : Nat) : (l.takeWhile q).length = k ↔ (∀ c ∈ l.take k, q c = true) ∧ k ≤ l.length ∧ ∀ c, l[k]? = some c → q c = false := by
  induction l generalizing k with
  | nil => simp; omega
  | cons a r ih =>
    cases k with
    | zero => simp only [List.takeWhile]; split <;> simp_all
    | succ k =>
      simp only [List.takeWhile]
      split
      · rename_i h
        simp only [List.length_cons, Nat.add_right_cancel_iff, ih k]
        simp [h]
      · rename_i h
        simp [h]

/-- What Go's strings.Cut at "#" leaves ahead of it. -/
theorem index_one (l : List UInt8) (c : UInt8) : (Lib.index l [c] = -1 ∧ l.takeWhile (fun x => !(x == c)) = l) ∨ (0 ≤ Lib.index l [c] ∧ l.takeWhile (fun x => !(x == c)) = l.take (Lib.index l [c]).toNat) := by
  induction l with
  | nil => left; simp [Lib.index]
  | cons a r ih =>
    by_cases h : a = c
    · subst h
      right
      simp [Lib.index, List.isPrefixOf]
    · have h1 : ([c].isPrefixOf (a :: r)) = false := by simp [List.isPrefixOf, Ne.symm h]
      have h2 : (!(a == c)) = true := by simp [h]
      rcases ih with ⟨e1, e2⟩ | ⟨e1, e2⟩
      · left
        simp [Lib.index, h1, e1, List.takeWhile, h2, e2]
      · right
        have h3 : (Lib.index r [c] == -1) = false := by rw [beq_eq_false_iff_ne]; omega
        simp only [Lib.index, h1, h3, List.takeWhile, h2]
        refine ⟨by simp; omega, ?_⟩
        rw [show ((if false = true then (0 : Int) else if false = true then -1 else Lib.index r [c] + 1)).toNat = (Lib.index r [c]).toNat + 1 by simp; omega]
        simp [e2]
theorem cut_bare (l : List UInt8) : (Lib.cut l [35]).1 = bare l := by
  unfold bare Lib.cut
  rcases index_one l 35 with ⟨e1, e2⟩ | ⟨e1, e2⟩
  · rw [if_neg (by omega), e2]
  · rw [if_pos e1, e2]

theorem isP_A (c : UInt8) : isP 65 90 [65, c] = alnum c := by
  have h1 : btw ((65 : UInt8).toNat : Int) 65 90 = true := by decide
  have h2 : alnum 65 = true := by decide
  simp only [isP, h1, List.all_cons, h2]
  simp
theorem bl_append (a b : ByteArray) : bl (a ++ b) = bl a ++ bl b := by simp [bl]
theorem bl_extract (s : ByteArray) (i j : Nat) : bl (s.extract i j) = ((bl s).take j).drop i := by
  simp [bl, ByteArray.data_extract, List.extract_eq_take_drop, List.drop_take]
theorem bl_one (s : ByteArray) (i : Nat) (h : i < s.size) : bl (s.extract i (i + 1)) = [s[i]] := by
  rw [bl_extract, List.drop_take, bl_drop s i h]; simp
theorem bl_A (s : ByteArray) (i : Nat) (h : i < s.size) : bl ({ data := #[65] } ++ s.extract i (i + 1)) = [65, s[i]] := by
  rw [bl_append, bl_one s i h]; rfl
theorem word_more (l : List UInt8) (k : Nat) (c : UInt8) (h : ∀ x ∈ l.take k, alnum x = true) (hc : l[k]? = some c) (ha : alnum c = true) : ∀ x ∈ l.take (k + 1), alnum x = true := by
  intro x hx
  rw [List.take_add_one, hc] at hx
  simp at hx
  rcases hx with hx | rfl
  · exact h x hx
  · exact ha
theorem word_stop (l : List UInt8) (k : Nat) (h : ∀ x ∈ l.take k, alnum x = true) (hk : k ≤ l.length) (hc : ∀ c, l[k]? = some c → alnum c = false) : (wordOf l).length = k :=
  (takeWhile_count alnum l k).2 ⟨h, hk, hc⟩
theorem bl_at (s : ByteArray) (a k : Nat) (h : a + k < s.size) : ((bl s).drop a)[k]? = some s[a + k] := by
  rw [List.getElem?_drop, List.getElem?_eq_getElem (by simpa using h)]; rfl
theorem bl_at_end (s : ByteArray) (a k : Nat) (h : ¬ a + k < s.size) : ((bl s).drop a)[k]? = none := by
  rw [List.getElem?_drop, List.getElem?_eq_none (by rw [bl_len]; omega)]
theorem size_A (s : ByteArray) (i : Nat) (h : i < s.size) : ({ data := #[65] } ++ s.extract i (i + 1) : ByteArray).size = 2 := by
  rw [← bl_len, bl_A s i h]; rfl
theorem str_eq {x : ByteArray} {l : List UInt8} (h : bl x = l) : x = ⟨l.toArray⟩ := by
  obtain ⟨⟨d⟩⟩ := x
  simp [bl] at h; simp [h]
theorem ssub (s : ByteArray) (a : Nat) : bl (s.extract a s.size) = (bl s).drop a := by
  rw [bl_extract, List.take_of_length_le (by rw [bl_len]; omega)]
theorem sword (s : ByteArray) (a : Nat) : bl (s.extract a (a + (wordOf ((bl s).drop a)).length)) = wordOf ((bl s).drop a) := by
  rw [bl_extract, List.drop_take, show a + (wordOf ((bl s).drop a)).length - a = (wordOf ((bl s).drop a)).length by omega]
  exact (takeWhile_take alnum _).symm
theorem sword_le (s : ByteArray) (a : Nat) (h : a ≤ s.size) : a + (wordOf ((bl s).drop a)).length ≤ s.size := by
  have := wordOf_le ((bl s).drop a); rw [List.length_drop, bl_len] at this; omega
section
variable (s : ByteArray) (k f : Nat) (acc : List Tok)
theorem toks_at_end (h : ¬ k < s.size) : toks f ((bl s).drop k) k acc = (acc, 0, 0) := by rw [bl_drop_end s k h]; exact toks_nil _ _ _
theorem toks_at_space (h : k < s.size) (hc : s[k].toNat = 32) : toks (f + 1) ((bl s).drop k) k acc = toks f ((bl s).drop (k + 1)) (k + 1) acc := by
  rw [bl_drop s k h]; exact toks_space _ _ _ _ _ hc
theorem toks_at_bad (h : k < s.size) (hc : ¬ s[k].toNat = 32) (hk : (oneTok ((bl s).drop k) k).kind = 0) : toks (f + 1) ((bl s).drop k) k acc = ([], (oneTok ((bl s).drop k) k).col, 1) := by
  rw [bl_drop s k h] at hk ⊢; exact toks_bad _ _ _ _ _ hc hk
theorem toks_at_long (h : k < s.size) (hc : ¬ s[k].toNat = 32) (hk : ¬ (oneTok ((bl s).drop k) k).kind = 0) (hl : 8 < (oneTok ((bl s).drop k) k).text.length) :
    toks (f + 1) ((bl s).drop k) k acc = ([], (oneTok ((bl s).drop k) k).col, 4) := by
  rw [bl_drop s k h] at hk hl ⊢; exact toks_long _ _ _ _ _ hc hk hl
theorem toks_at_go (h : k < s.size) (hc : ¬ s[k].toNat = 32) (hk : ¬ (oneTok ((bl s).drop k) k).kind = 0) (hl : ¬ 8 < (oneTok ((bl s).drop k) k).text.length) :
    toks (f + 1) ((bl s).drop k) k acc = toks f ((bl s).drop (k + (oneTok ((bl s).drop k) k).text.length)) (k + (oneTok ((bl s).drop k) k).text.length) (acc ++ [oneTok ((bl s).drop k) k]) := by
  rw [← List.drop_drop]
  rw [bl_drop s k h] at hk hl ⊢; exact toks_go _ _ _ _ _ hc hk hl
/-- The first token of what is left takes some of it, and no more. -/
theorem oneTok_room (l : List UInt8) (p : Nat) (hk : ¬ (oneTok l p).kind = 0) : 0 < (oneTok l p).text.length ∧ (oneTok l p).text.length ≤ l.length := by
  match l, hk with
  | [], hk => simp [oneTok] at hk
  | c :: r, hk =>
    unfold oneTok at hk ⊢
    by_cases h1 : c.toNat = 46
    · simp [h1]
    · by_cases h2 : c.toNat = 38
      · simp [h2]
      · by_cases h3 : [60, 45].isPrefixOf (c :: r) = true
        · simp only [h1, h2, h3, if_false, if_true]
          have := List.isPrefixOf_iff_prefix.1 h3
          exact ⟨by decide, this.length_le⟩
        · by_cases h4 : btw c.toNat 65 90 = true
          · have ha : alnum c = true := by simp [alnum, h4]
            simp only [h1, h2, h3, h4, if_false, if_true]
            exact ⟨by simp [wordOf, List.takeWhile, ha], wordOf_le _⟩
          · by_cases h5 : btw c.toNat 97 122 = true
            · have ha : alnum c = true := by simp [alnum, h5]
              simp only [h1, h2, h3, h4, h5, if_false, if_true]
              exact ⟨by simp [wordOf, List.takeWhile, ha], wordOf_le _⟩
            · simp [h1, h2, h3, h4, h5] at hk
end
section
variable (s : ByteArray) (a : Nat) (h : a < s.size)
theorem oneTok_dot (h1 : s[a].toNat = 46) : oneTok ((bl s).drop a) a = ⟨3, [46], a + 1⟩ := by
  rw [bl_drop s a h]
  have e : s[a] = 46 := UInt8.toNat_inj.1 h1
  simp [oneTok, e]
theorem oneTok_amp (h1 : s[a].toNat = 38) : oneTok ((bl s).drop a) a = ⟨5, [38], a + 1⟩ := by
  rw [bl_drop s a h]
  have e : s[a] = 38 := UInt8.toNat_inj.1 h1
  simp [oneTok, e]
theorem arrow_iff : [60, 45].isPrefixOf ((bl s).drop a) = true ↔ s[a].toNat = 60 ∧ ∃ h' : a + 1 < s.size, s[a + 1].toNat = 45 := by
  rw [bl_drop s a h]
  have e : ∀ (c : UInt8) (n : Nat) (hn : n < 256), c.toNat = n ↔ c = UInt8.ofNat n := fun c n hn => by
    rw [← UInt8.toNat_inj]; simp [Nat.mod_eq_of_lt hn]
  by_cases h2 : a + 1 < s.size
  · rw [bl_drop s (a + 1) h2]
    simp only [List.isPrefixOf, Bool.and_true, Bool.and_eq_true, beq_iff_eq, exists_prop_of_true, h2]
    rw [e _ 60 (by omega), e _ 45 (by omega)]
    exact ⟨fun ⟨x, y⟩ => ⟨x.symm, y.symm⟩, fun ⟨x, y⟩ => ⟨x.symm, y.symm⟩⟩
  · rw [bl_drop_end s (a + 1) h2]
    simp [List.isPrefixOf, h2]
theorem oneTok_arrow (h1 : s[a].toNat = 60) (h2 : a + 1 < s.size) (h3 : s[a + 1].toNat = 45) : oneTok ((bl s).drop a) a = ⟨4, [60, 45], a + 1⟩ := by
  have hp := (arrow_iff s a h).2 ⟨h1, h2, h3⟩
  rw [bl_drop s a h] at hp ⊢
  simp only [oneTok, h1, hp]
  simp
theorem oneTok_big (h4 : btw s[a].toNat 65 90 = true) : oneTok ((bl s).drop a) a = ⟨1, wordOf ((bl s).drop a), a + 1⟩ := by
  have hb := h4
  simp [btw] at hb
  have hp : ¬ [60, 45].isPrefixOf ((bl s).drop a) = true := fun x => by have := ((arrow_iff s a h).1 x).1; omega
  rw [bl_drop s a h] at hp ⊢
  simp only [oneTok, hp, h4]
  rw [if_neg (by omega), if_neg (by omega)]
  simp
theorem oneTok_small (h4 : btw s[a].toNat 97 122 = true) : oneTok ((bl s).drop a) a = ⟨2, wordOf ((bl s).drop a), a + 1⟩ := by
  have hb := h4
  simp [btw] at hb
  have h5 : btw s[a].toNat 65 90 = false := by simp [btw]; omega
  have hp : ¬ [60, 45].isPrefixOf ((bl s).drop a) = true := fun x => by have := ((arrow_iff s a h).1 x).1; omega
  rw [bl_drop s a h] at hp ⊢
  simp only [oneTok, hp, h4, h5]
  rw [if_neg (by omega), if_neg (by omega)]
  simp
theorem oneTok_none (h1 : ¬ s[a].toNat = 46) (h2 : ¬ s[a].toNat = 38) (h3 : ¬ (s[a].toNat = 60 ∧ ∃ h' : a + 1 < s.size, s[a + 1].toNat = 45)) (h4 : btw s[a].toNat 65 90 = false) (h5 : btw s[a].toNat 97 122 = false) :
    oneTok ((bl s).drop a) a = ⟨0, [s[a]], a + 1⟩ := by
  have hp : ¬ [60, 45].isPrefixOf ((bl s).drop a) = true := fun x => h3 ((arrow_iff s a h).1 x)
  rw [bl_drop s a h] at hp ⊢
  simp only [oneTok, hp, h4, h5, h1, h2]
  simp
end
end Go.Proofs.Ytmpanikeeeoikaa
