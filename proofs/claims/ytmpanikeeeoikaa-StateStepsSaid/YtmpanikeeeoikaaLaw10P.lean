/- The statement StateParts: the walk of the law. -/
import Derived.Test.YtmpanikeeeoikaaPolLight2
import Derived.Test.YtmpanikeeeoikaaLaw10R
namespace Go.Proofs.Ytmpanikeeeoikaa
open Go.RowKit Go.Shelf

def minusS (l m : List St) : List St := ord (l.filter fun x => !hasS m x)
def unionS (l m : List St) : List St := ord (l ++ m)
theorem minus_mem (l m : List St) (x : St) : x ∈ minusS l m ↔ x ∈ l ∧ ¬ x ∈ m := by
  unfold minusS
  rw [ord_mem, List.mem_filter, Bool.not_eq_true', ← Bool.not_eq_true, hasS_mem]
theorem union_mem (l m : List St) (x : St) : x ∈ unionS l m ↔ x ∈ l ∨ x ∈ m := by
  unfold unionS; rw [ord_mem, List.mem_append]
theorem minus_asc (l m : List St) : Asc (minusS l m) := ord_asc _
theorem union_asc (l m : List St) : Asc (unionS l m) := ord_asc _
theorem minus_len (l m : List St) : (minusS l m).length ≤ l.length := Nat.le_trans (ord_len _) (List.length_filter_le _ _)
theorem union_len (l m : List St) : (unionS l m).length ≤ l.length + m.length := by have := ord_len (l ++ m); rwa [List.length_append] at this
theorem parts1 (l m : List St) : unionS (minusS l (minusS l m)) (minusS l m) = unionS l [] := by
  refine asc_unique _ _ (union_asc _ _) (union_asc _ _) fun x => ?_
  simp only [union_mem, minus_mem, List.not_mem_nil, or_false]
  by_cases h1 : x ∈ l <;> by_cases h2 : x ∈ m <;> simp [h1, h2]
theorem parts2 (l m : List St) : minusS m (minusS m l) = minusS l (minusS l m) := by
  refine asc_unique _ _ (minus_asc _ _) (minus_asc _ _) fun x => ?_
  simp only [minus_mem]
  by_cases h1 : x ∈ l <;> by_cases h2 : x ∈ m <;> simp [h1, h2]
theorem parts3 (l m : List St) : unionS (minusS l (minusS l m)) (minusS m l) = unionS m [] := by
  refine asc_unique _ _ (union_asc _ _) (union_asc _ _) fun x => ?_
  simp only [union_mem, minus_mem, List.not_mem_nil, or_false]
  by_cases h1 : x ∈ l <;> by_cases h2 : x ∈ m <;> simp [h1, h2]
theorem parts4 (l : List St) : minusS l l = [] := by
  refine asc_unique _ _ (minus_asc _ _) List.Pairwise.nil fun x => ?_
  simp only [minus_mem, List.not_mem_nil]
  simp
theorem parts5 {l m : List St} {x : St} (h : x ∈ minusS l (minusS l m)) : hasS l x = true ∧ hasS m x = true := by
  rw [hasS_mem, hasS_mem]
  simp only [minus_mem] at h
  by_cases h2 : x ∈ m
  · exact ⟨h.1, h2⟩
  · exact absurd ⟨h.1, h2⟩ h.2

theorem stMinus (va vb : Value) (l m : List St) (w : World) (ha : SlA w 9 va l.length (l.flatMap St.cells)) (hb : SlA w 9 vb m.length (m.flatMap St.cells)) (hl : l.length ≤ 1000) :
    Calls Try.prog 21 #[va, vb] w fun e w' => ∃ v, e = .returned v ∧ Sl w' 9 v (minusS l m).length ((minusS l m).flatMap St.cells) ∧ Below w.heap.size w w' := state_Minus va vb l m w ha hb hl
theorem stUnion (va vb : Value) (l m : List St) (w : World) (ha : SlA w 9 va l.length (l.flatMap St.cells)) (hb : SlA w 9 vb m.length (m.flatMap St.cells)) (hl : l.length ≤ 400) (hm : m.length ≤ 400) :
    Calls Try.prog 23 #[va, vb] w fun e w' => ∃ v, e = .returned v ∧ Sl w' 9 v (unionS l m).length ((unionS l m).flatMap St.cells) ∧ Below w.heap.size w w' := state_Union va vb l m w ha hb hl hm

set_option maxHeartbeats 1000000 in
theorem state_Gone (v0 v1 v2 v3 vc : Value) (l m : List St) (w : World) (h1 : v1.oneCell' = true) (h2 : v2.oneCell' = true) (h3 : v3.oneCell' = true) (ha : SlA w 9 v0 l.length (l.flatMap St.cells)) (hb : SlA w 9 vc m.length (m.flatMap St.cells)) (hl : l.length ≤ 1000) :
    Calls Try.prog 16 #[pv v0 v1 v2 v3, vc] w fun e w' => ∃ v, e = .returned v ∧ Sl w' 9 v (minusS l m).length ((minusS l m).flatMap St.cells) ∧ Below w.heap.size w w' := by
  have HW := Lib.hid ((Below.refl _ w).alloc (Nat.le_refl _) (.cells #[v0, v1, v2, v3] 26))
  have M := Lib.hid (stMinus v0 vc l m _ (ha.below HW.out) (hb.below HW.out) hl)
  obtain ⟨a0, c0, rfl⟩ := ha.form
  obtain ⟨ac, cc, rfl⟩ := hb.form
  clear ha hb
  go_enter Try.func16, Try.ntmps16
  go_wp2_with fail
  refine M.out.mono ?_
  rintro e w1 ⟨v, rfl, hs, hb1⟩
  have HS := Lib.hid hs
  have HB := Lib.hid (HW.out.trans (hb1.mono HW.out.size))
  clear hs hb1
  go_wp2
  go_ret
  exact ⟨_, rfl, HS.out, HB.out⟩
set_option maxHeartbeats 1000000 in
theorem state_Added (v0 v1 v2 v3 vc : Value) (l m : List St) (w : World) (h1 : v1.oneCell' = true) (h2 : v2.oneCell' = true) (h3 : v3.oneCell' = true) (ha : SlA w 9 v0 l.length (l.flatMap St.cells)) (hb : SlA w 9 vc m.length (m.flatMap St.cells)) (hm : m.length ≤ 1000) :
    Calls Try.prog 14 #[pv v0 v1 v2 v3, vc] w fun e w' => ∃ v, e = .returned v ∧ Sl w' 9 v (minusS m l).length ((minusS m l).flatMap St.cells) ∧ Below w.heap.size w w' := by
  have HW := Lib.hid ((Below.refl _ w).alloc (Nat.le_refl _) (.cells #[v0, v1, v2, v3] 26))
  have M := Lib.hid (stMinus vc v0 m l _ (hb.below HW.out) (ha.below HW.out) hm)
  obtain ⟨a0, c0, rfl⟩ := ha.form
  obtain ⟨ac, cc, rfl⟩ := hb.form
  clear ha hb
  go_enter Try.func14, Try.ntmps14
  go_wp2_with fail
  refine M.out.mono ?_
  rintro e w1 ⟨v, rfl, hs, hb1⟩
  have HS := Lib.hid hs
  have HB := Lib.hid (HW.out.trans (hb1.mono HW.out.size))
  clear hs hb1
  go_wp2
  go_ret
  exact ⟨_, rfl, HS.out, HB.out⟩
end Go.Proofs.Ytmpanikeeeoikaa
