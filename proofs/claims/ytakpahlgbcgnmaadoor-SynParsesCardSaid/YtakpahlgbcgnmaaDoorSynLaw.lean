/- The plain law: what the reader of package syn makes of any tokens is what the reference's shapes say. -/
import Derived.Test.YtakpahlgbcgnmaaDoorReadBody
import Derived.Test.YtakpahlgbcgnmaaDoorSynParse
import Derived.Test.YtakpahlgbcgnmaaDoorRefParse
namespace Go.Proofs.YtakpahlgbcgnmaaDoor

def tx (l : List Tok) (i : Nat) : ByteArray := ⟨(l.getD i ⟨0, [], 0⟩).text.toArray⟩
def best (l : List Tok) : Nat := max (max (max (fitsS l sh1) (fitsS l sh2)) (fitsS l sh3)) (fitsS l sh4)
def refEnd (l : List Tok) (e : Int) : St × Int × Int := if best l = l.length then (noS, e, 3) else (noS, (l.getD (best l) ⟨0, [], 0⟩).col, 2)
def refS (l : List Tok) (e : Int) : St × Int × Int :=
  if fitsS l sh1 = l.length ∧ fitsS l sh1 = 5 then (⟨1, ⟨tx l 0, tx l 2⟩, tx l 4, noR, noR, emp⟩, 0, 0)
  else if fitsS l sh2 = l.length ∧ fitsS l sh2 = 7 then (⟨2, ⟨tx l 0, tx l 2⟩, emp, ⟨tx l 4, tx l 6⟩, noR, emp⟩, 0, 0)
  else if fitsS l sh3 = l.length ∧ fitsS l sh3 = 9 then (⟨3, ⟨tx l 0, tx l 2⟩, emp, ⟨tx l 4, tx l 6⟩, noR, tx l 8⟩, 0, 0)
  else if fitsS l sh4 = l.length ∧ fitsS l sh4 = 11 then (normalS ⟨4, ⟨tx l 0, tx l 2⟩, emp, ⟨tx l 4, tx l 6⟩, ⟨tx l 8, tx l 10⟩, emp⟩, 0, 0)
  else refEnd l e
def readS (l : List Tok) (e : Int) : St × Int × Int := (Rd.mk l e 0 0).stmt.2.fin (Rd.mk l e 0 0).stmt.1
theorem why_take (l : List Tok) (e p y k : Int) (h : y ≠ 0) : (Rd.mk l e p y).take k = (emp, ⟨l, e, p, y⟩) := take_why _ _ h
theorem why_is (l : List Tok) (e p y k : Int) (h : y ≠ 0) : (Rd.mk l e p y).is k = false := is_why _ _ h
theorem fin_why (l : List Tok) (e p y : Int) (s : St) (h : y ≠ 0) : (Rd.mk l e p y).fin s = (noS, p, y) := fin_bad h
theorem fin_nil (e p : Int) (s : St) : (Rd.mk [] e p 0).fin s = (normalS s, 0, 0) := rfl
theorem fin_cons (t : Tok) (l : List Tok) (e p : Int) (s : St) : (Rd.mk (t :: l) e p 0).fin s = (noS, t.col, 2) := rfl
theorem stmt_def (r : Rd) : r.stmt = (r.role.2.take 4).2.body ⟨0, r.role.1, emp, noR, noR, emp⟩ := rfl
theorem role_def (r : Rd) : r.role = (⟨(r.take 1).1, (((r.take 1).2.take 3).2.take 2).1⟩, (((r.take 1).2.take 3).2.take 2).2) := rfl
theorem normal1 (h : Rl) (w : ByteArray) (a b : Rl) (v : ByteArray) : normalS ⟨1, h, w, a, b, v⟩ = ⟨1, h, w, a, b, v⟩ := normal_no _ _ _ _ _ _ (by decide)
theorem normal2 (h : Rl) (w : ByteArray) (a b : Rl) (v : ByteArray) : normalS ⟨2, h, w, a, b, v⟩ = ⟨2, h, w, a, b, v⟩ := normal_no _ _ _ _ _ _ (by decide)
theorem normal3 (h : Rl) (w : ByteArray) (a b : Rl) (v : ByteArray) : normalS ⟨3, h, w, a, b, v⟩ = ⟨3, h, w, a, b, v⟩ := normal_no _ _ _ _ _ _ (by decide)
set_option maxHeartbeats 8000000 in
set_option maxRecDepth 100000 in
theorem law_parse (l : List Tok) (e : Int) : readS l e = refS l e := by
  unfold readS
  rcases l with _ | ⟨t0, l⟩
  rotate_left
  by_cases h0 : t0.kind = 1
  rcases l with _ | ⟨t1, l⟩
  rotate_left
  by_cases h1 : t1.kind = 3
  rcases l with _ | ⟨t2, l⟩
  rotate_left
  by_cases h2 : t2.kind = 2
  rcases l with _ | ⟨t3, l⟩
  rotate_left
  by_cases h3 : t3.kind = 4
  rcases l with _ | ⟨t4, l⟩
  rotate_left
  by_cases h4 : t4.kind = 1
  rcases l with _ | ⟨t5, l⟩
  rotate_left
  by_cases h5 : t5.kind = 3
  rcases l with _ | ⟨t6, l⟩
  rotate_left
  by_cases h6 : t6.kind = 2
  rcases l with _ | ⟨t7, l⟩
  rotate_left
  by_cases h7 : t7.kind = 3
  rcases l with _ | ⟨t8, l⟩
  rotate_left
  by_cases h8 : t8.kind = 2
  rcases l with _ | ⟨t9, l⟩
  rotate_left 3
  by_cases h7' : t7.kind = 5
  rcases l with _ | ⟨t8, l⟩
  rotate_left
  by_cases h8 : t8.kind = 1
  rcases l with _ | ⟨t9, l⟩
  rotate_left
  by_cases h9 : t9.kind = 3
  rcases l with _ | ⟨t10, l⟩
  rotate_left
  by_cases h10 : t10.kind = 2
  rcases l with _ | ⟨t11, l⟩
  all_goals simp [stmt_def, role_def, take_no, take_yes, take_nil, why_take, why_is, is_nil, is_cons, Rd.body, fin_why, fin_nil, fin_cons, normal1, normal2, normal3, refS, refEnd, best, fits_end, fits_none, fits_cons, sh1, sh2, sh3, sh4, tx, *]
end Go.Proofs.YtakpahlgbcgnmaaDoor
