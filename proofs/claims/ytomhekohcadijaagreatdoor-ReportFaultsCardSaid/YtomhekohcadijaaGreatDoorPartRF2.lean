/- What the tokens of a line are, in plain Lean: no program in sight. Roles and statements as data, and what may be one; in plain Lean. -/
import Derived.Test.YtomhekohcadijaaGreatDoorPartRF1
import Derived.Lib.IndexMore
import Derived.Lib.Bytealg
import Derived.Laws.StructEq
namespace Go.Proofs.YtomhekohcadijaaGreatDoor
open Go.RowKit

structure Tok where
  kind : Int
  text : List UInt8
  col : Int
def Tok.cells (t : Tok) : List Value := [.int .i64 t.kind, .string ⟨t.text.toArray⟩, .int .i64 t.col]
theorem Tok.cells_len (t : Tok) : t.cells.length = 3 := rfl

def bare (l : List UInt8) : List UInt8 := l.takeWhile (fun c => !(c == 35))

def wordOf (l : List UInt8) : List UInt8 := l.takeWhile alnum
def oneTok (l : List UInt8) (p : Nat) : Tok := match l with
  | [] => ⟨0, [], p + 1⟩
  | c :: r =>
    if c.toNat = 46 then ⟨3, [c], p + 1⟩ else if c.toNat = 38 then ⟨5, [c], p + 1⟩
    else if [60, 45].isPrefixOf (c :: r) then ⟨4, [60, 45], p + 1⟩
    else if btw c.toNat 65 90 then ⟨1, wordOf (c :: r), p + 1⟩ else if btw c.toNat 97 122 then ⟨2, wordOf (c :: r), p + 1⟩ else ⟨0, [c], p + 1⟩

def toks : Nat → List UInt8 → Nat → List Tok → List Tok × Int × Int
  | 0, _, _, acc => (acc, 0, 0)
  | _ + 1, [], _, acc => (acc, 0, 0)
  | f + 1, c :: r, p, acc =>
    if c.toNat = 32 then toks f r (p + 1) acc
    else if (oneTok (c :: r) p).kind = 0 then ([], (oneTok (c :: r) p).col, 1)
    else if 8 < (oneTok (c :: r) p).text.length then ([], (oneTok (c :: r) p).col, 4)
    else toks f ((c :: r).drop (oneTok (c :: r) p).text.length) (p + (oneTok (c :: r) p).text.length) (acc ++ [oneTok (c :: r) p])

def tokens (l : List UInt8) : List Tok × Int × Int := if 200 < l.length then ([], 201, 4) else toks (bare l).length (bare l) 0 []

theorem toks_nil (f p : Nat) (acc : List Tok) : toks f [] p acc = (acc, 0, 0) := by cases f <;> rfl
theorem toks_space (f : Nat) (c : UInt8) (r : List UInt8) (p : Nat) (acc : List Tok) (h : c.toNat = 32) : toks (f + 1) (c :: r) p acc = toks f r (p + 1) acc := by simp [toks, h]
theorem toks_bad (f : Nat) (c : UInt8) (r : List UInt8) (p : Nat) (acc : List Tok) (h : ¬ c.toNat = 32) (hk : (oneTok (c :: r) p).kind = 0) : toks (f + 1) (c :: r) p acc = ([], (oneTok (c :: r) p).col, 1) := by simp [toks, h, hk]
theorem toks_long (f : Nat) (c : UInt8) (r : List UInt8) (p : Nat) (acc : List Tok) (h : ¬ c.toNat = 32) (hk : ¬ (oneTok (c :: r) p).kind = 0) (hl : 8 < (oneTok (c :: r) p).text.length) : toks (f + 1) (c :: r) p acc = ([], (oneTok (c :: r) p).col, 4) := by simp [toks, h, hk, hl]
theorem toks_go (f : Nat) (c : UInt8) (r : List UInt8) (p : Nat) (acc : List Tok) (h : ¬ c.toNat = 32) (hk : ¬ (oneTok (c :: r) p).kind = 0) (hl : ¬ 8 < (oneTok (c :: r) p).text.length) :
    toks (f + 1) (c :: r) p acc = toks f ((c :: r).drop (oneTok (c :: r) p).text.length) (p + (oneTok (c :: r) p).text.length) (acc ++ [oneTok (c :: r) p]) := by simp [toks, h, hk]; omega

theorem takeWhile_le (q : UInt8 → Bool) (l : List UInt8) : (l.takeWhile q).length ≤ l.length := by
  induction l with
  | nil => simp
  | cons a r ih => simp only [List.takeWhile]; split <;> simp <;> omega
theorem wordOf_le (l : List UInt8) : (wordOf l).length ≤ l.length := takeWhile_le _ l
theorem bare_le (l : List UInt8) : (bare l).length ≤ l.length := takeWhile_le _ l
theorem takeWhile_take (q : UInt8 → Bool) (l : List UInt8) : l.takeWhile q = l.take (l.takeWhile q).length := by
  induction l with
  | nil => simp
  | cons a r ih => simp only [List.takeWhile]; split <;> simp <;> exact ih
theorem takeWhile_count (q : UInt8 → Bool) (l : List UInt8) (k : Nat) : (l.takeWhile q).length = k ↔ (∀ c ∈ l.take k, q c = true) ∧ k ≤ l.length ∧ ∀ c, l[k]? = some c → q c = false := by
  induction l generalizing k with
  | nil => simp; omega
  | cons a r ih =>
    cases k with
    | zero => simp only [List.takeWhile]; split <;> simp_all
    | succ k =>
      simp only [List.takeWhile]
      split
      · rename_i h
        simp only [List.length_cons, Nat.add_right_cancel_iff, ih k]
        simp [h]
      · rename_i h
        simp [h]

theorem index_one (l : List UInt8) (c : UInt8) : (Lib.index l [c] = -1 ∧ l.takeWhile (fun x => !(x == c)) = l) ∨ (0 ≤ Lib.index l [c] ∧ l.takeWhile (fun x => !(x == c)) = l.take (Lib.index l [c]).toNat) := by
  induction l with
  | nil => left; simp [Lib.index]
  | cons a r ih =>
    by_cases h : a = c
    · subst h
      right
      simp [Lib.index, List.isPrefixOf]
    · have h1 : ([c].isPrefixOf (a :: r)) = false := by simp [List.isPrefixOf, Ne.symm h]
      have h2 : (!(a == c)) = true := by simp [h]
      rcases ih with ⟨e1, e2⟩ | ⟨e1, e2⟩
      · left
        simp [Lib.index, h1, e1, List.takeWhile, h2, e2]
      · right
        have h3 : (Lib.index r [c] == -1) = false := by rw [beq_eq_false_iff_ne]; omega
        simp only [Lib.index, h1, h3, List.takeWhile, h2]
        refine ⟨by simp; omega, ?_⟩
        rw [show ((if false = true then (0 : Int) else if false = true then -1 else Lib.index r [c] + 1)).toNat = (Lib.index r [c]).toNat + 1 by simp; omega]
        simp [e2]
theorem cut_bare (l : List UInt8) : (Lib.cut l [35]).1 = bare l := by
  unfold bare Lib.cut
  rcases index_one l 35 with ⟨e1, e2⟩ | ⟨e1, e2⟩
  · rw [if_neg (by omega), e2]
  · rw [if_pos e1, e2]

theorem isP_A (c : UInt8) : isP 65 90 [65, c] = alnum c := by
  have h1 : btw ((65 : UInt8).toNat : Int) 65 90 = true := by decide
  have h2 : alnum 65 = true := by decide
  simp only [isP, h1, List.all_cons, h2]
  simp
theorem bl_append (a b : ByteArray) : bl (a ++ b) = bl a ++ bl b := by simp [bl]
theorem bl_extract (s : ByteArray) (i j : Nat) : bl (s.extract i j) = ((bl s).take j).drop i := by
  simp [bl, ByteArray.data_extract, List.extract_eq_take_drop, List.drop_take]
theorem bl_one (s : ByteArray) (i : Nat) (h : i < s.size) : bl (s.extract i (i + 1)) = [s[i]] := by
  rw [bl_extract, List.drop_take, bl_drop s i h]; simp
theorem bl_A (s : ByteArray) (i : Nat) (h : i < s.size) : bl ({ data := #[65] } ++ s.extract i (i + 1)) = [65, s[i]] := by
  rw [bl_append, bl_one s i h]; rfl
theorem word_more (l : List UInt8) (k : Nat) (c : UInt8) (h : ∀ x ∈ l.take k, alnum x = true) (hc : l[k]? = some c) (ha : alnum c = true) : ∀ x ∈ l.take (k + 1), alnum x = true := by
  intro x hx
  rw [List.take_add_one, hc] at hx
  simp at hx
  rcases hx with hx | rfl
  · exact h x hx
  · exact ha
theorem word_stop (l : List UInt8) (k : Nat) (h : ∀ x ∈ l.take k, alnum x = true) (hk : k ≤ l.length) (hc : ∀ c, l[k]? = some c → alnum c = false) : (wordOf l).length = k :=
  (takeWhile_count alnum l k).2 ⟨h, hk, hc⟩
theorem bl_at (s : ByteArray) (a k : Nat) (h : a + k < s.size) : ((bl s).drop a)[k]? = some s[a + k] := by
  rw [List.getElem?_drop, List.getElem?_eq_getElem (by simpa using h)]; rfl
theorem bl_at_end (s : ByteArray) (a k : Nat) (h : ¬ a + k < s.size) : ((bl s).drop a)[k]? = none := by
  rw [List.getElem?_drop, List.getElem?_eq_none (by rw [bl_len]; omega)]
theorem size_A (s : ByteArray) (i : Nat) (h : i < s.size) : ({ data := #[65] } ++ s.extract i (i + 1) : ByteArray).size = 2 := by
  rw [← bl_len, bl_A s i h]; rfl
theorem str_eq {x : ByteArray} {l : List UInt8} (h : bl x = l) : x = ⟨l.toArray⟩ := by
  obtain ⟨⟨d⟩⟩ := x
  simp [bl] at h; simp [h]
theorem ssub (s : ByteArray) (a : Nat) : bl (s.extract a s.size) = (bl s).drop a := by
  rw [bl_extract, List.take_of_length_le (by rw [bl_len]; omega)]
theorem sword (s : ByteArray) (a : Nat) : bl (s.extract a (a + (wordOf ((bl s).drop a)).length)) = wordOf ((bl s).drop a) := by
  rw [bl_extract, List.drop_take, show a + (wordOf ((bl s).drop a)).length - a = (wordOf ((bl s).drop a)).length by omega]
  exact (takeWhile_take alnum _).symm
theorem sword_le (s : ByteArray) (a : Nat) (h : a ≤ s.size) : a + (wordOf ((bl s).drop a)).length ≤ s.size := by
  have := wordOf_le ((bl s).drop a); rw [List.length_drop, bl_len] at this; omega
section
variable (s : ByteArray) (k f : Nat) (acc : List Tok)
theorem toks_at_end (h : ¬ k < s.size) : toks f ((bl s).drop k) k acc = (acc, 0, 0) := by rw [bl_drop_end s k h]; exact toks_nil _ _ _
theorem toks_at_space (h : k < s.size) (hc : s[k].toNat = 32) : toks (f + 1) ((bl s).drop k) k acc = toks f ((bl s).drop (k + 1)) (k + 1) acc := by
  rw [bl_drop s k h]; exact toks_space _ _ _ _ _ hc
theorem toks_at_bad (h : k < s.size) (hc : ¬ s[k].toNat = 32) (hk : (oneTok ((bl s).drop k) k).kind = 0) : toks (f + 1) ((bl s).drop k) k acc = ([], (oneTok ((bl s).drop k) k).col, 1) := by
  rw [bl_drop s k h] at hk ⊢; exact toks_bad _ _ _ _ _ hc hk
theorem toks_at_long (h : k < s.size) (hc : ¬ s[k].toNat = 32) (hk : ¬ (oneTok ((bl s).drop k) k).kind = 0) (hl : 8 < (oneTok ((bl s).drop k) k).text.length) :
    toks (f + 1) ((bl s).drop k) k acc = ([], (oneTok ((bl s).drop k) k).col, 4) := by
  rw [bl_drop s k h] at hk hl ⊢; exact toks_long _ _ _ _ _ hc hk hl
theorem toks_at_go (h : k < s.size) (hc : ¬ s[k].toNat = 32) (hk : ¬ (oneTok ((bl s).drop k) k).kind = 0) (hl : ¬ 8 < (oneTok ((bl s).drop k) k).text.length) :
    toks (f + 1) ((bl s).drop k) k acc = toks f ((bl s).drop (k + (oneTok ((bl s).drop k) k).text.length)) (k + (oneTok ((bl s).drop k) k).text.length) (acc ++ [oneTok ((bl s).drop k) k]) := by
  rw [← List.drop_drop]
  rw [bl_drop s k h] at hk hl ⊢; exact toks_go _ _ _ _ _ hc hk hl
theorem oneTok_room (l : List UInt8) (p : Nat) (hk : ¬ (oneTok l p).kind = 0) : 0 < (oneTok l p).text.length ∧ (oneTok l p).text.length ≤ l.length := by
  match l, hk with
  | [], hk => simp [oneTok] at hk
  | c :: r, hk =>
    unfold oneTok at hk ⊢
    by_cases h1 : c.toNat = 46
    · simp [h1]
    · by_cases h2 : c.toNat = 38
      · simp [h2]
      · by_cases h3 : [60, 45].isPrefixOf (c :: r) = true
        · simp only [h1, h2, h3, if_false, if_true]
          have := List.isPrefixOf_iff_prefix.1 h3
          exact ⟨by decide, this.length_le⟩
        · by_cases h4 : btw c.toNat 65 90 = true
          · have ha : alnum c = true := by simp [alnum, h4]
            simp only [h1, h2, h3, h4, if_false, if_true]
            exact ⟨by simp [wordOf, List.takeWhile, ha], wordOf_le _⟩
          · by_cases h5 : btw c.toNat 97 122 = true
            · have ha : alnum c = true := by simp [alnum, h5]
              simp only [h1, h2, h3, h4, h5, if_false, if_true]
              exact ⟨by simp [wordOf, List.takeWhile, ha], wordOf_le _⟩
            · simp [h1, h2, h3, h4, h5] at hk
end
section
variable (s : ByteArray) (a : Nat) (h : a < s.size)
end
end Go.Proofs.YtomhekohcadijaaGreatDoor
namespace Go.Proofs.YtomhekohcadijaaGreatDoor
open Go.RowKit

structure Rl where
  o : ByteArray
  n : ByteArray
structure St where
  k : Int
  h : Rl
  who : ByteArray
  a : Rl
  b : Rl
  via : ByteArray
abbrev rv (r : Rl) : Value := .agg #[.string r.o, .string r.n]
abbrev sv (s : St) : Value := .agg #[.int .i64 s.k, .string s.h.o, .string s.h.n, .string s.who, .string s.a.o, .string s.a.n, .string s.b.o, .string s.b.n, .string s.via]
def Rl.cells (r : Rl) : List Value := [.string r.o, .string r.n]
def St.cells (s : St) : List Value := [.int .i64 s.k, .string s.h.o, .string s.h.n, .string s.who, .string s.a.o, .string s.a.n, .string s.b.o, .string s.b.n, .string s.via]
theorem Rl.cells_len (r : Rl) : r.cells.length = 2 := rfl
theorem St.cells_len (s : St) : s.cells.length = 9 := rfl
instance : DecidableEq Rl := fun x y => decidable_of_iff (x.o = y.o ∧ x.n = y.n) (by cases x; cases y; simp)
instance : DecidableEq St := fun x y => decidable_of_iff (x.k = y.k ∧ x.h = y.h ∧ x.who = y.who ∧ x.a = y.a ∧ x.b = y.b ∧ x.via = y.via) (by cases x; cases y; simp)

abbrev emp : ByteArray := ⟨#[]⟩
def noR : Rl := ⟨emp, emp⟩
def noS : St := ⟨0, noR, emp, noR, noR, emp⟩
def Rl.le (r : Rl) (m : Nat) : Prop := r.o.size ≤ m ∧ r.n.size ≤ m
def St.le (s : St) (m : Nat) : Prop := s.h.le m ∧ s.who.size ≤ m ∧ s.a.le m ∧ s.b.le m ∧ s.via.size ≤ m

def eqRl (x y : Rl) : Bool := decide (x = y)
def eqSt (x y : St) : Bool := decide (x = y)

def isRole (r : Rl) : Bool := isP 65 90 (bl r.o) && isP 97 122 (bl r.n)
def cmpS (a b : ByteArray) : Int := Lib.compareBytes (bl a) (bl b)
def orI (x y : Int) : Int := if x = 0 then y else x
theorem orI_yes {x y : Int} (h : x = 0) : orI x y = y := if_pos h
theorem orI_no {x y : Int} (h : ¬ x = 0) : orI x y = x := if_neg h
def cmpR (a b : Rl) : Int := orI (cmpS a.o b.o) (cmpS a.n b.n)
def lessR (a b : Rl) : Bool := decide (cmpR a b < 0)

def rightS (s : St) : Bool :=
  isRole s.h &&
  (if s.k = 1 then isP 65 90 (bl s.who) && eqRl s.a noR && eqRl s.b noR && decide (s.via = emp)
   else if s.k = 2 then decide (s.who = emp) && isRole s.a && eqRl s.b noR && decide (s.via = emp)
   else if s.k = 3 then decide (s.who = emp) && isRole s.a && eqRl s.b noR && isP 97 122 (bl s.via)
   else if s.k = 4 then decide (s.who = emp) && isRole s.a && isRole s.b && decide (s.via = emp) && !lessR s.b s.a
   else false)
def normalS (s : St) : St := if s.k = 4 ∧ lessR s.b s.a = true then { s with a := s.b, b := s.a } else s
def roleT (r : Rl) : ByteArray := r.o ++ ⟨#[46]⟩ ++ r.n
def printS (s : St) : ByteArray :=
  if rightS s then
    roleT s.h ++ ⟨#[32, 60, 45, 32]⟩ ++
      (if s.k = 2 then roleT s.a else if s.k = 3 then roleT s.a ++ ⟨#[46]⟩ ++ s.via else if s.k = 4 then roleT s.a ++ ⟨#[32, 38, 32]⟩ ++ roleT s.b else s.who)
  else emp
def rolesS (s : St) : List Rl := if s.k = 2 ∨ s.k = 3 then [s.h, s.a] else if s.k = 4 then [s.h, s.a, s.b] else [s.h]

theorem rightS1 (h : Rl) (who : ByteArray) (a b : Rl) (via : ByteArray) : rightS ⟨1, h, who, a, b, via⟩ = (isRole h && isP 65 90 (bl who) && eqSt ⟨1, h, who, a, b, via⟩ ⟨1, h, who, noR, noR, emp⟩) := by
  simp [rightS, eqSt, eqRl, Bool.and_assoc, Bool.decide_and]
theorem rightS2 (h : Rl) (who : ByteArray) (a b : Rl) (via : ByteArray) : rightS ⟨2, h, who, a, b, via⟩ = (isRole h && isRole a && eqSt ⟨2, h, who, a, b, via⟩ ⟨2, h, emp, a, noR, emp⟩) := by
  simp [rightS, eqSt, eqRl, Bool.and_assoc, Bool.decide_and, Bool.and_left_comm]
theorem rightS3 (h : Rl) (who : ByteArray) (a b : Rl) (via : ByteArray) : rightS ⟨3, h, who, a, b, via⟩ = (isRole h && isRole a && isP 97 122 (bl via) && eqSt ⟨3, h, who, a, b, via⟩ ⟨3, h, emp, a, noR, via⟩) := by
  simp [rightS, eqSt, eqRl, Bool.and_assoc, Bool.decide_and, Bool.and_left_comm, Bool.and_comm]
theorem rightS4 (h : Rl) (who : ByteArray) (a b : Rl) (via : ByteArray) : rightS ⟨4, h, who, a, b, via⟩ = (isRole h && isRole a && isRole b && !lessR b a && eqSt ⟨4, h, who, a, b, via⟩ ⟨4, h, emp, a, b, emp⟩) := by
  simp [rightS, eqSt, Bool.and_assoc, Bool.decide_and, Bool.and_left_comm, Bool.and_comm]
theorem rightS0 (k : Int) (h : Rl) (who : ByteArray) (a b : Rl) (via : ByteArray) (h1 : ¬ k = 1) (h2 : ¬ k = 2) (h3 : ¬ k = 3) (h4 : ¬ k = 4) : rightS ⟨k, h, who, a, b, via⟩ = false := by
  simp [rightS, h1, h2, h3, h4]

theorem toList_bl (a : ByteArray) : a.toList = bl a := by rw [ByteArray.toList_eq]
theorem cmp_zero : ∀ (a b : List UInt8), Lib.compareBytes a b = 0 ↔ a = b
  | [], [] => by simp [Lib.compareBytes]
  | [], _ :: _ => by simp [Lib.compareBytes]
  | _ :: _, [] => by simp [Lib.compareBytes]
  | a :: xs, b :: ys => by
    simp only [Lib.compareBytes]
    by_cases h1 : a < b
    · rw [if_pos h1]; simp; intro e; subst e; exact absurd h1 (UInt8.lt_irrefl _)
    · by_cases h2 : b < a
      · rw [if_neg h1, if_pos h2]; simp; intro e; subst e; exact absurd h2 (UInt8.lt_irrefl _)
      · have : a = b := UInt8.le_antisymm (UInt8.not_lt.1 h2) (UInt8.not_lt.1 h1)
        subst this
        rw [if_neg h1, if_neg h2, cmp_zero xs ys]; simp
theorem cmp_less : ∀ (a b : List UInt8), Op.bytesLess a b = decide (Lib.compareBytes a b < 0)
  | [], [] => by simp [Lib.compareBytes, Op.bytesLess]
  | [], _ :: _ => by simp [Lib.compareBytes, Op.bytesLess]
  | _ :: _, [] => by simp [Lib.compareBytes, Op.bytesLess]
  | a :: xs, b :: ys => by
    simp only [Lib.compareBytes, Op.bytesLess, cmp_less xs ys]
    by_cases h1 : a < b
    · simp [h1]
    · by_cases h2 : b < a
      · have : ¬ a = b := fun e => by subst e; exact UInt8.lt_irrefl _ h2
        simp [h1, h2, this]
      · have : a = b := UInt8.le_antisymm (UInt8.not_lt.1 h2) (UInt8.not_lt.1 h1)
        subst this
        simp [h1]
theorem bl_inj {a b : ByteArray} : bl a = bl b ↔ a = b := by
  obtain ⟨⟨x⟩⟩ := a; obtain ⟨⟨y⟩⟩ := b; simp [bl]
theorem cmpS_zero (a b : ByteArray) : cmpS a b = 0 ↔ a = b := (cmp_zero _ _).trans bl_inj
end Go.Proofs.YtomhekohcadijaaGreatDoor
