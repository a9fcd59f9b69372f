/- Small words that every text of mine uses: results, strings as lists of bytes, one package variable's cell. Plain Lean, no condition. -/
import Derived.Test.YtmpanikeeeoikaaProg
import Derived.WalkKit
import Derived.WalkSpells
import Derived.WalkLawsBesides
import Derived.Lib.Hide
import Derived.Deep.QuietTactic
import Derived.BigQuiet
import Derived.Deep.Draws
import Derived.Deep.DeepFit
import Derived.Deep.DeepCutAuto
import Derived.Deep.LoopGhost
import Derived.Shelf.Abstract
namespace Go.Proofs.Ytmpanikeeeoikaa
open Go.RowKit Go.Shelf

theorem ret_b {a b : Bool} (h : a = b) : Ending.returned (.bool a) = .returned (.bool b) := by rw [h]
theorem ret_s {a b : ByteArray} (h : a = b) : Ending.returned (.string a) = .returned (.string b) := by rw [h]
theorem ret_int {k : IntKind} {a b : Int} (h : a = b) : Ending.returned (.int k a) = .returned (.int k b) := by rw [h]

/-- What is known of old cells and marks behind a call that only makes memory. -/
theorem bcell {W w1 : World} (hb : Below W.heap.size W w1) : (∀ b o, b < W.heap.size → w1.cell? ⟨b, o, none⟩ = W.cell? ⟨b, o, none⟩) ∧ (∀ b o, b < W.heap.size → w1.frozen? ⟨b, o, none⟩ = W.frozen? ⟨b, o, none⟩) :=
  ⟨fun b o h => hb.cell (p := ⟨b, o, none⟩) h, fun b o h => hb.frozen (p := ⟨b, o, none⟩) h⟩
theorem below_drewN {B : Nat} {a w : World} (h : Below B a w) (n : Nat) : Below B a (w.drewN n) := ⟨h.os, h.tape, h.output, h.size, h.block⟩
theorem below_drew {B : Nat} {a w : World} (h : Below B a w) : Below B a w.drew := ⟨h.os, h.tape, h.output, h.size, h.block⟩
theorem nb {b : Bool} (h : ¬ b = true) : b = false := by simpa using h
theorem below_of_drewN {w : World} (n : Nat) : Below w.heap.size w (w.drewN n) := below_drewN (Below.refl _ _) n

abbrev bl (s : ByteArray) : List UInt8 := s.data.toList
theorem bl_len (s : ByteArray) : (bl s).length = s.size := by simp [bl]
theorem bl_drop (s : ByteArray) (k : Nat) (h : k < s.size) : (bl s).drop k = s[k] :: (bl s).drop (k + 1) := by
  rw [List.drop_eq_getElem_cons (by simpa using h)]; rfl
theorem bl_drop_end (s : ByteArray) (k : Nat) (h : ¬ k < s.size) : (bl s).drop k = [] := List.drop_of_length_le (by rw [bl_len]; omega)
theorem bl_take (s : ByteArray) (k : Nat) (h : k < s.size) : (bl s).take (k + 1) = (bl s).take k ++ [s[k]] := by
  rw [List.take_succ_eq_append_getElem (by simpa using h)]; rfl
theorem size_ne (s : ByteArray) (h : 0 < s.size) : ((s.size : Int) == 0) = false := by
  rw [beq_eq_false_iff_ne]; omega
theorem size_eq (s : ByteArray) (h : ¬ 0 < s.size) : ((s.size : Int) == 0) = true := by
  rw [beq_iff_eq]; omega

/-- A byte between two numbers. -/
def btw (c lo hi : Int) : Bool := decide (lo ≤ c) && decide (c ≤ hi)
def alnum (c : UInt8) : Bool := btw c.toNat 97 122 || btw c.toNat 65 90 || btw c.toNat 48 57
/-- One to eight letters and digits, the first one between two numbers. -/
def isP (lo hi : Int) (l : List UInt8) : Bool := match l with
  | [] => false
  | c :: r => decide ((c :: r).length ≤ 8) && btw c.toNat lo hi && (c :: r).all alnum

theorem isP_of (lo hi : Int) (s : ByteArray) (h0 : 0 < s.size) (h8 : s.size ≤ 8) (hb : btw s[0].toNat lo hi = true) : isP lo hi (bl s) = (bl s).all alnum := by
  have := bl_drop s 0 h0
  simp only [List.drop_zero] at this
  have hl : (bl s).length ≤ 8 := by rw [bl_len]; exact h8
  rw [this] at hl ⊢
  simp only [isP, hb, hl]; simp
theorem isP_false (lo hi : Int) (s : ByteArray) (h0 : 0 < s.size) (hb : btw s[0].toNat lo hi = false) : isP lo hi (bl s) = false := by
  have := bl_drop s 0 h0
  simp only [List.drop_zero] at this
  rw [this]; simp [isP, hb]
theorem isP_long (lo hi : Int) (s : ByteArray) (h : 8 < s.size) : isP lo hi (bl s) = false := by
  have h1 := bl_drop s 0 (by omega)
  simp only [List.drop_zero] at h1
  have hl : 8 < (bl s).length := by rw [bl_len]; exact h
  rw [h1] at hl ⊢
  have : ¬ ((s[0] :: (bl s).drop (0 + 1)).length ≤ 8) := by omega
  simp only [isP, this]; simp
theorem isP_nil (lo hi : Int) (s : ByteArray) (h : ¬ 0 < s.size) : isP lo hi (bl s) = false := by
  have : bl s = [] := List.eq_nil_of_length_eq_zero (by rw [bl_len]; omega)
  rw [this]; rfl
theorem all_step (s : ByteArray) (k : Nat) (h : k < s.size) : ((bl s).drop k).all alnum = (alnum s[k] && ((bl s).drop (k + 1)).all alnum) := by
  rw [bl_drop s k h, List.all_cons]
theorem all_end (s : ByteArray) (k : Nat) (h : ¬ k < s.size) : ((bl s).drop k).all alnum = true := by
  rw [bl_drop_end s k h]; rfl
end Go.Proofs.Ytmpanikeeeoikaa
