/- The reference of layer 1: what its small functions return, for every text. -/
import Derived.Test.YtmpanikeeeoikaaDoorScanSpec
namespace Go.Proofs.YtmpanikeeeoikaaDoor
open Go.RowKit Go.Shelf

def letterI (c : Int) : Bool := btw c 48 57 || btw c 65 90 || btw c 97 122
theorem letterI_alnum (c : UInt8) : letterI c.toNat = alnum c := by
  simp only [letterI, alnum]
  cases btw c.toNat 48 57 <;> cases btw c.toNat 65 90 <;> cases btw c.toNat 97 122 <;> rfl
theorem letterI_eq (c : Int) : letterI c = decide ((48 ≤ c ∧ c ≤ 57) ∨ (65 ≤ c ∧ c ≤ 90) ∨ (97 ≤ c ∧ c ≤ 122)) := by
  simp [letterI, btw, Bool.decide_or, Bool.decide_and, Bool.or_assoc]
end Go.Proofs.YtmpanikeeeoikaaDoor
