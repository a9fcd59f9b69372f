/- The reference of layer 3: what its small functions return, for every role and statement of texts that are not too long. -/
import Derived.Test.YtmpanikeeeoikaaDoorRef01
import Derived.Test.YtmpanikeeeoikaaDoorSynRight
namespace Go.Proofs.YtmpanikeeeoikaaDoor
open Go.RowKit Go.Shelf

def eqS (a b : ByteArray) : Bool := decide (a = b)
theorem toList_emp {x : ByteArray} : x.toList = [] ↔ x = emp := by
  rw [show ([] : List UInt8) = emp.toList by rw [toList_bl]]; exact toList_inj
theorem eqS_yes {x : ByteArray} (h : x.toList = []) : eqS x emp = true := by simp [eqS, toList_emp.1 h]
theorem eqS_no {x : ByteArray} (h : ¬ x.toList = []) : eqS x emp = false := decide_eq_false (fun e => h (toList_emp.2 e))
theorem isEmpty_eqS (x : ByteArray) : x.toList.isEmpty = eqS x emp := by
  rw [Bool.eq_iff_iff, List.isEmpty_iff, toList_emp]; simp [eqS]

theorem lessR_def (a b c d : ByteArray) : lessR ⟨a, b⟩ ⟨c, d⟩ = if a = c then Op.bytesLess b.toList d.toList else Op.bytesLess a.toList c.toList := by
  unfold lessR cmpR orI
  dsimp only
  rw [toList_bl, toList_bl, toList_bl, toList_bl, cmp_less, cmp_less]
  by_cases h : a = c
  · rw [if_pos h, if_pos ((cmpS_zero a c).2 h)]; rfl
  · rw [if_neg h, if_neg (fun e => h ((cmpS_zero a c).1 e))]; rfl
set_option maxHeartbeats 400000 in
theorem ref3_Less (x y : Rl) (w : World) : Calls Tryd.prog 9 #[rv x, rv y] w fun e w' => e = .returned (.bool (lessR x y)) ∧ Below w.heap.size w w' := by
  obtain ⟨a, b⟩ := x
  obtain ⟨c, d⟩ := y
  have E := Lib.hid (lessR_def a b c d)
  by_cases h : a = c
  · have hb : (a.toList == c.toList) = true := by rw [beq_str]; simp [h]
    have H := Lib.hid h
    clear h
    go_enter Tryd.func9, Tryd.ntmps9
    go_wp2
    go_ret
    exact ⟨ret_b (by rw [E.out, if_pos H.out]), ((Below.refl _ _).alloc (Nat.le_refl _) _).alloc (by simp) _⟩
  · have hb : (a.toList == c.toList) = false := by rw [beq_str]; simp [h]
    have H := Lib.hid h
    clear h
    go_enter Tryd.func9, Tryd.ntmps9
    go_wp2
    go_ret
    exact ⟨ret_b (by rw [E.out, if_neg H.out]), ((Below.refl _ _).alloc (Nat.le_refl _) _).alloc (by simp) _⟩
theorem rightR1 (h : Rl) (who : ByteArray) (a b : Rl) (via : ByteArray) : rightS ⟨1, h, who, a, b, via⟩ = (isRole h && (isP 65 90 (bl who) && eqRl a noR && eqRl b noR && eqS via emp)) := by
  simp [rightS, eqS]
theorem rightR2 (h : Rl) (who : ByteArray) (a b : Rl) (via : ByteArray) : rightS ⟨2, h, who, a, b, via⟩ = (isRole h && (eqS who emp && isRole a && (eqRl b noR && eqS via emp))) := by
  simp [rightS, eqS, Bool.and_assoc]
theorem rightR3 (h : Rl) (who : ByteArray) (a b : Rl) (via : ByteArray) : rightS ⟨3, h, who, a, b, via⟩ = (isRole h && (eqS who emp && isRole a && (eqRl b noR && isP 97 122 (bl via)))) := by
  simp [rightS, eqS, Bool.and_assoc]
theorem rightR4 (h : Rl) (who : ByteArray) (a b : Rl) (via : ByteArray) : rightS ⟨4, h, who, a, b, via⟩ = (isRole h && (eqS who emp && isRole a && (isRole b && eqS via emp && !lessR b a))) := by
  simp [rightS, eqS, Bool.and_assoc]

end Go.Proofs.YtmpanikeeeoikaaDoor
