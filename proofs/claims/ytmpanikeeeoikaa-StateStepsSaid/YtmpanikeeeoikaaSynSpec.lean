/- Roles and statements as data, and what may be one; in plain Lean. -/
import Derived.Test.YtmpanikeeeoikaaScanSpec
import Derived.Lib.Bytealg
import Derived.Laws.StructEq
namespace Go.Proofs.Ytmpanikeeeoikaa
open Go.RowKit

structure Rl where
  o : ByteArray
  n : ByteArray
structure St where
  k : Int
  h : Rl
  who : ByteArray
  a : Rl
  b : Rl
  via : ByteArray
abbrev rv (r : Rl) : Value := .agg #[.string r.o, .string r.n]
abbrev sv (s : St) : Value := .agg #[.int .i64 s.k, .string s.h.o, .string s.h.n, .string s.who, .string s.a.o, .string s.a.n, .string s.b.o, .string s.b.n, .string s.via]
def Rl.cells (r : Rl) : List Value := [.string r.o, .string r.n]
def St.cells (s : St) : List Value := [.int .i64 s.k, .string s.h.o, .string s.h.n, .string s.who, .string s.a.o, .string s.a.n, .string s.b.o, .string s.b.n, .string s.via]
theorem Rl.cells_len (r : Rl) : r.cells.length = 2 := rfl
theorem St.cells_len (s : St) : s.cells.length = 9 := rfl
instance : DecidableEq Rl := fun x y => decidable_of_iff (x.o = y.o ∧ x.n = y.n) (by cases x; cases y; simp)
instance : DecidableEq St := fun x y => decidable_of_iff (x.k = y.k ∧ x.h = y.h ∧ x.who = y.who ∧ x.a = y.a ∧ x.b = y.b ∧ x.via = y.via) (by cases x; cases y; simp)

abbrev emp : ByteArray := ⟨#[]⟩
def noR : Rl := ⟨emp, emp⟩
def noS : St := ⟨0, noR, emp, noR, noR, emp⟩
/-- Texts of at most this many bytes. -/
def Rl.le (r : Rl) (m : Nat) : Prop := r.o.size ≤ m ∧ r.n.size ≤ m
def St.le (s : St) (m : Nat) : Prop := s.h.le m ∧ s.who.size ≤ m ∧ s.a.le m ∧ s.b.le m ∧ s.via.size ≤ m

def eqRl (x y : Rl) : Bool := decide (x = y)
def eqSt (x y : St) : Bool := decide (x = y)

def isRole (r : Rl) : Bool := isP 65 90 (bl r.o) && isP 97 122 (bl r.n)
def cmpS (a b : ByteArray) : Int := Lib.compareBytes (bl a) (bl b)
def orI (x y : Int) : Int := if x = 0 then y else x
theorem orI_yes {x y : Int} (h : x = 0) : orI x y = y := if_pos h
theorem orI_no {x y : Int} (h : ¬ x = 0) : orI x y = x := if_neg h
def cmpR (a b : Rl) : Int := orI (cmpS a.o b.o) (cmpS a.n b.n)
def lessR (a b : Rl) : Bool := decide (cmpR a b < 0)

/-- Which statements may be. -/
def rightS (s : St) : Bool :=
  isRole s.h &&
  (if s.k = 1 then isP 65 90 (bl s.who) && eqRl s.a noR && eqRl s.b noR && decide (s.via = emp)
   else if s.k = 2 then decide (s.who = emp) && isRole s.a && eqRl s.b noR && decide (s.via = emp)
   else if s.k = 3 then decide (s.who = emp) && isRole s.a && eqRl s.b noR && isP 97 122 (bl s.via)
   else if s.k = 4 then decide (s.who = emp) && isRole s.a && isRole s.b && decide (s.via = emp) && !lessR s.b s.a
   else false)
def normalS (s : St) : St := if s.k = 4 ∧ lessR s.b s.a = true then { s with a := s.b, b := s.a } else s
def roleT (r : Rl) : ByteArray := r.o ++ ⟨#[46]⟩ ++ r.n
def printS (s : St) : ByteArray :=
  if rightS s then
    roleT s.h ++ ⟨#[32, 60, 45, 32]⟩ ++
      (if s.k = 2 then roleT s.a else if s.k = 3 then roleT s.a ++ ⟨#[46]⟩ ++ s.via else if s.k = 4 then roleT s.a ++ ⟨#[32, 38, 32]⟩ ++ roleT s.b else s.who)
  else emp
def rolesS (s : St) : List Rl := if s.k = 2 ∨ s.k = 3 then [s.h, s.a] else if s.k = 4 then [s.h, s.a, s.b] else [s.h]

theorem rightS1 (h : Rl) (who : ByteArray) (a b : Rl) (via : ByteArray) : rightS ⟨1, h, who, a, b, via⟩ = (isRole h && isP 65 90 (bl who) && eqSt ⟨1, h, who, a, b, via⟩ ⟨1, h, who, noR, noR, emp⟩) := by
  simp [rightS, eqSt, eqRl, Bool.and_assoc, Bool.decide_and]
theorem rightS2 (h : Rl) (who : ByteArray) (a b : Rl) (via : ByteArray) : rightS ⟨2, h, who, a, b, via⟩ = (isRole h && isRole a && eqSt ⟨2, h, who, a, b, via⟩ ⟨2, h, emp, a, noR, emp⟩) := by
  simp [rightS, eqSt, eqRl, Bool.and_assoc, Bool.decide_and, Bool.and_left_comm]
theorem rightS3 (h : Rl) (who : ByteArray) (a b : Rl) (via : ByteArray) : rightS ⟨3, h, who, a, b, via⟩ = (isRole h && isRole a && isP 97 122 (bl via) && eqSt ⟨3, h, who, a, b, via⟩ ⟨3, h, emp, a, noR, via⟩) := by
  simp [rightS, eqSt, eqRl, Bool.and_assoc, Bool.decide_and, Bool.and_left_comm, Bool.and_comm]
theorem rightS4 (h : Rl) (who : ByteArray) (a b : Rl) (via : ByteArray) : rightS ⟨4, h, who, a, b, via⟩ = (isRole h && isRole a && isRole b && !lessR b a && eqSt ⟨4, h, who, a, b, via⟩ ⟨4, h, emp, a, b, emp⟩) := by
  simp [rightS, eqSt, Bool.and_assoc, Bool.decide_and, Bool.and_left_comm, Bool.and_comm]
theorem rightS0 (k : Int) (h : Rl) (who : ByteArray) (a b : Rl) (via : ByteArray) (h1 : ¬ k = 1) (h2 : ¬ k = 2) (h3 : ¬ k = 3) (h4 : ¬ k = 4) : rightS ⟨k, h, who, a, b, via⟩ = false := by
  simp [rightS, h1, h2, h3, h4]

theorem toList_bl (a : ByteArray) : a.toList = bl a := by rw [ByteArray.toList_eq]
theorem cmp_zero : ∀ (a b : List UInt8), Lib.compareBytes a b = 0 ↔ a = b
  | [], [] => by simp [Lib.compareBytes]
  | [], _ :: _ => by simp [Lib.compareBytes]
  | _ :: _, [] => by simp [Lib.compareBytes]
  | a :: xs, b :: ys => by
    simp only [Lib.compareBytes]
    by_cases h1 : a < b
    · rw [if_pos h1]; simp; intro e; subst e; exact absurd h1 (UInt8.lt_irrefl _)
    · by_cases h2 : b < a
      · rw [if_neg h1, if_pos h2]; simp; intro e; subst e; exact absurd h2 (UInt8.lt_irrefl _)
      · have : a = b := UInt8.le_antisymm (UInt8.not_lt.1 h2) (UInt8.not_lt.1 h1)
        subst this
        rw [if_neg h1, if_neg h2, cmp_zero xs ys]; simp
theorem cmp_less : ∀ (a b : List UInt8), Op.bytesLess a b = decide (Lib.compareBytes a b < 0)
  | [], [] => by simp [Lib.compareBytes, Op.bytesLess]
  | [], _ :: _ => by simp [Lib.compareBytes, Op.bytesLess]
  | _ :: _, [] => by simp [Lib.compareBytes, Op.bytesLess]
  | a :: xs, b :: ys => by
    simp only [Lib.compareBytes, Op.bytesLess, cmp_less xs ys]
    by_cases h1 : a < b
    · simp [h1]
    · by_cases h2 : b < a
      · have : ¬ a = b := fun e => by subst e; exact UInt8.lt_irrefl _ h2
        simp [h1, h2, this]
      · have : a = b := UInt8.le_antisymm (UInt8.not_lt.1 h2) (UInt8.not_lt.1 h1)
        subst this
        simp [h1]
theorem bl_inj {a b : ByteArray} : bl a = bl b ↔ a = b := by
  obtain ⟨⟨x⟩⟩ := a; obtain ⟨⟨y⟩⟩ := b; simp [bl]
theorem cmpS_zero (a b : ByteArray) : cmpS a b = 0 ↔ a = b := (cmp_zero _ _).trans bl_inj
end Go.Proofs.Ytmpanikeeeoikaa
