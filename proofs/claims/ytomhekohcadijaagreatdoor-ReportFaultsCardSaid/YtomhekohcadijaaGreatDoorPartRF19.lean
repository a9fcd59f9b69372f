/- Queries and their lines, in plain Lean: what the reader of package query makes of tokens, and the document's answer. The plain law of queries: what the reader makes of any tokens is what the document says. -/
import Derived.Test.YtomhekohcadijaaGreatDoorPartRF7
import Derived.Test.YtomhekohcadijaaGreatDoorPartRF18
namespace Go.Proofs.YtomhekohcadijaaGreatDoor

def wAlways : ByteArray := ⟨#[97, 108, 119, 97, 121, 115]⟩
def wCan : ByteArray := ⟨#[99, 97, 110]⟩
def wHas : ByteArray := ⟨#[104, 97, 115]⟩
def wHave : ByteArray := ⟨#[104, 97, 118, 101]⟩
def wWithin : ByteArray := ⟨#[119, 105, 116, 104, 105, 110]⟩
def wBe : ByteArray := ⟨#[98, 101]⟩
def wEmpty : ByteArray := ⟨#[101, 109, 112, 116, 121]⟩
def wApart : ByteArray := ⟨#[97, 112, 97, 114, 116]⟩
def wIn : ByteArray := ⟨#[105, 110]⟩
def wBeEmpty : ByteArray := ⟨#[98, 101, 32, 101, 109, 112, 116, 121]⟩
structure Qd where
  k : Int
  a : Rl
  b : Rl
  us : List ByteArray
def Tok.tx (t : Tok) : ByteArray := ⟨t.text.toArray⟩
def whoT (few : Int) : List Tok → Nat → List ByteArray → Int → Int → List ByteArray × Rd
  | [], n, acc, e, p => if (n : Int) < few then (insSB acc emp, ⟨[], e, e, 3⟩) else (acc, ⟨[], e, p, 0⟩)
  | t :: l, n, acc, e, p =>
    if t.kind = 1 then if acc.length = 12 ∧ hasB acc t.tx = false then ([], ⟨t :: l, e, t.col, 5⟩) else whoT few l (n + 1) (insSB acc t.tx) e p
    else (insSB acc emp, ⟨t :: l, e, t.col, 2⟩)
def Rd.who (r : Rd) (few : Int) : List ByteArray × Rd := if r.why ≠ 0 then ([], r) else whoT few r.l 0 [] r.e r.p
/-! The document's answer. -/
def nameT (t : Tok) (s : ByteArray) : Bool := decide (t.kind = 2) && decide (t.tx = s)
def wordsQ (k : Int) : ByteArray := if k = 1 then wHas else if k = 2 then wHave else if k = 3 then wWithin else if k = 4 then wBeEmpty else if k = 5 then wApart else if k = 6 then wIn else emp
def goesQ (k : Int) (i : Nat) (t : Tok) : Bool :=
  if i = 0 then (univB k && nameT t wAlways) || (!univB k && nameT t wCan)
  else if i = 1 then decide (t.kind = 1) else if i = 2 then decide (t.kind = 3) else if i = 3 then decide (t.kind = 2)
  else if i = 4 then (decide (k = 4) && nameT t wBe) || (!decide (k = 4) && nameT t (wordsQ k))
  else if i = 5 then (decide (k = 4) && nameT t wEmpty) || (decide (5 ≤ k) && decide (t.kind = 1))
  else if i = 6 then decide (5 ≤ k) && decide (t.kind = 3)
  else if i = 7 then decide (5 ≤ k) && decide (t.kind = 2) else false
def frontQ (k : Int) : Nat := if k = 4 then 6 else if 5 ≤ k then 8 else 5
end Go.Proofs.YtomhekohcadijaaGreatDoor
namespace Go.Proofs.YtomhekohcadijaaGreatDoor

theorem g1 (k : Int) (t : Tok) : goesQ k 1 t = decide (t.kind = 1) := rfl
theorem g2 (k : Int) (t : Tok) : goesQ k 2 t = decide (t.kind = 3) := rfl
theorem f1 : frontQ 1 = 5 := rfl
theorem f2 : frontQ 2 = 5 := rfl
theorem u2 : univB 2 = false := rfl
end Go.Proofs.YtomhekohcadijaaGreatDoor
