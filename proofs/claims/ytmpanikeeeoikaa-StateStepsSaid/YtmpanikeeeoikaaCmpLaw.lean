/- Plain laws: a comparison turned round. -/
import Derived.Test.YtmpanikeeeoikaaSynSpec
namespace Go.Proofs.Ytmpanikeeeoikaa
open Go.RowKit

theorem cmp_neg : ∀ (a b : List UInt8), Lib.compareBytes b a = - Lib.compareBytes a b
  | [], [] => rfl
  | [], _ :: _ => rfl
  | _ :: _, [] => rfl
  | a :: xs, b :: ys => by
    simp only [Lib.compareBytes]
    by_cases h1 : a < b
    · have h2 : ¬ b < a := fun h => UInt8.lt_irrefl a (UInt8.lt_trans h1 h)
      simp [h1, h2]
    · by_cases h2 : b < a
      · simp [h1, h2]
      · simp [h1, h2, cmp_neg xs ys]
theorem cmpS_neg (a b : ByteArray) : cmpS b a = - cmpS a b := cmp_neg _ _
theorem cmpR_neg (a b : Rl) : cmpR b a = - cmpR a b := by
  unfold cmpR orI
  rw [cmpS_neg a.o b.o, cmpS_neg a.n b.n]
  by_cases h : cmpS a.o b.o = 0
  · rw [if_pos (by omega), if_pos h]
  · rw [if_neg (by omega), if_neg h]
theorem less_no {a b : Rl} (h : lessR b a = true) : lessR a b = false := by
  simp only [lessR, decide_eq_true_iff, decide_eq_false_iff_not] at h ⊢
  have := cmpR_neg a b
  omega
theorem eqSt_self (s : St) : eqSt s s = true := by simp [eqSt]
end Go.Proofs.Ytmpanikeeeoikaa
