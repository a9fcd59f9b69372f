/- Texts sorted and compacted are the row of all texts in order, each once. names.New: the row of all texts, in order, each once. names.Table: Len, At, Find, All; binary search at texts. slices.BinarySearch at texts in order; names.Table.Find. table.Table: New, Prins, Links, Roles, Role. The reference's rows of texts, and numbers: crupperref01.Has, Put, New; crupperref06.Place, Role (printed by gen_reftab.py). crupperref05.Prins, Names, to the letter (printed by gen_prinsl.py). crupperref05.Fits, crupperref04.Right, crupperref05.Right, to the letter (printed by gen_right6.py). -/
import Derived.Test.YtomhekohcadijaaGreatDoorPartRF16
import Derived.Lib.SlicesCompact
import Derived.Lib.RowBridge
import Derived.Sort.Walk0
import Derived.Sort.EncStr
import Derived.Test.YtomhekohcadijaaGreatDoorShelf
import Derived.Sort.OwnSorted
import Derived.Sort.Grow
import Derived.Lib.OwnBridge
import Derived.Test.YtomhekohcadijaaGreatDoorPartRF15
namespace Go.Proofs.YtomhekohcadijaaGreatDoor
open Go.RowKit Go.Shelf Go.Lib Go.Sort

def dedupG {α : Type} [DecidableEq α] : List α → List α
  | [] => []
  | [x] => [x]
  | x :: y :: r => if x = y then dedupG (y :: r) else x :: dedupG (y :: r)
section
variable {α : Type} [DecidableEq α]
theorem dedupG_mem : ∀ (l : List α) (z : α), z ∈ dedupG l ↔ z ∈ l
  | [], z => by simp [dedupG]
  | [x], z => by simp [dedupG]
  | x :: y :: r, z => by
    have ih := dedupG_mem (y :: r) z
    unfold dedupG
    by_cases e : x = y
    · rw [if_pos e, ih, e]; simp
    · rw [if_neg e, List.mem_cons, ih, List.mem_cons (b := x)]
theorem dedupG_snoc : ∀ (p : List α) (y z : α), dedupG (p ++ [y, z]) = if y = z then dedupG (p ++ [y]) else dedupG (p ++ [y]) ++ [z]
  | [], y, z => by
    show dedupG [y, z] = if y = z then dedupG [y] else dedupG [y] ++ [z]
    unfold dedupG
    by_cases h : y = z
    · rw [if_pos h, if_pos h, h]; rfl
    · rw [if_neg h, if_neg h]; rfl
  | [x], y, z => by
    have ih := dedupG_snoc [] y z
    simp only [List.nil_append] at ih
    show dedupG (x :: y :: [z]) = if y = z then dedupG (x :: y :: []) else dedupG (x :: y :: []) ++ [z]
    have e1 : dedupG (x :: y :: [z]) = if x = y then dedupG [y, z] else x :: dedupG [y, z] := rfl
    have e2 : dedupG (x :: y :: []) = if x = y then dedupG [y] else x :: dedupG [y] := rfl
    rw [e1, e2, ih]
    by_cases h1 : x = y <;> by_cases h2 : y = z <;> simp [h1, h2]
  | x :: x' :: p, y, z => by
    have ih := dedupG_snoc (x' :: p) y z
    simp only [List.cons_append] at ih ⊢
    have e1 : ∀ r, dedupG (x :: x' :: r) = if x = x' then dedupG (x' :: r) else x :: dedupG (x' :: r) := fun _ => rfl
    rw [e1, e1, ih]
    by_cases h1 : x = x' <;> by_cases h2 : y = z <;> simp [h1, h2]
theorem compactUpTo_dedup [Inhabited α] (zs : List α) : ∀ m, m ≤ zs.length → compactUpTo zs.toArray m = dedupG (zs.take m)
  | 0, _ => rfl
  | 1, h => by
    rw [compactUpTo_succ, keeps_lt_one _ 0 (by omega)]
    match zs, h with
    | x :: r, _ => simp [compactUpTo, dedupG]
  | m + 2, h => by
    have ih := compactUpTo_dedup zs (m + 1) (by omega)
    have e0 : zs.toArray[m + 1]! = zs[m + 1] := by simp [show m + 1 < zs.length by omega]
    have e1 : zs.toArray[m]! = zs[m] := by simp [show m < zs.length by omega]
    have et : zs.take (m + 2) = zs.take m ++ [zs[m], zs[m + 1]] := by
      rw [List.take_succ_eq_append_getElem (by omega), List.take_succ_eq_append_getElem (by omega), List.append_assoc]; rfl
    have et1 : zs.take (m + 1) = zs.take m ++ [zs[m]] := List.take_succ_eq_append_getElem (by omega)
    rw [compactUpTo_succ, ih, et, dedupG_snoc, ← et1]
    by_cases e : zs[m] = zs[m + 1]
    · rw [if_pos e, keeps_neg (by omega) (by rw [e0, show m + 1 - 1 = m by omega, e1]; exact e.symm)]
      simp
    · rw [if_neg e, keeps_pos (by rw [e0, show m + 1 - 1 = m by omega, e1]; exact fun h => e h.symm), if_pos rfl, e0]
theorem compact_dedup [Inhabited α] (zs : List α) : compact zs = dedupG zs := by
  unfold compact
  rw [compactUpTo_dedup zs _ (Nat.le_refl _), List.take_of_length_le (Nat.le_refl _)]
end
def toBA (x : List UInt8) : ByteArray := ⟨x.toArray⟩
theorem bl_toBA (x : List UInt8) : bl (toBA x) = x := by simp [bl, toBA]
theorem toBA_bl (x : ByteArray) : toBA (bl x) = x := by cases x; simp [bl, toBA]
theorem le_cmp (x y : List UInt8) : x ≤ y ↔ compareBytes x y ≤ 0 := by
  have h1 := bytesLess_eq y x
  have h2 := cmp_less y x
  have h3 := cmp_neg x y
  rw [h1] at h2
  have h4 : y < x ↔ compareBytes y x < 0 := by
    constructor
    · intro h; exact of_decide_eq_true (h2 ▸ decide_eq_true h)
    · intro h; exact of_decide_eq_true (h2.symm ▸ decide_eq_true h)
  rw [← List.not_lt, h4]
  omega
theorem dedupG_asc : ∀ (l : List (List UInt8)), (l.Pairwise fun x y => x ≤ y) → AscB ((dedupG l).map toBA)
  | [], _ => List.Pairwise.nil
  | [x], _ => by simp [dedupG, AscB]
  | x :: y :: r, h => by
    have h' := List.pairwise_cons.1 h
    have ih := dedupG_asc (y :: r) h'.2
    unfold dedupG
    by_cases e : x = y
    · rw [if_pos e]; exact ih
    · rw [if_neg e, List.map_cons]
      refine List.pairwise_cons.2 ⟨fun z hz => ?_, ih⟩
      obtain ⟨z', hz', rfl⟩ := List.mem_map.1 hz
      have hz'' := (dedupG_mem (y :: r) z').1 hz'
      have hxz : compareBytes x z' ≤ 0 := (le_cmp x z').1 (h'.1 z' hz'')
      have hxy : compareBytes x y ≤ 0 := (le_cmp x y).1 (h'.1 y (by simp))
      have hyz : compareBytes y z' ≤ 0 := by
        rcases List.mem_cons.1 hz'' with rfl | hz''
        · have := (cmp_zero z' z').2 rfl; omega
        · exact (le_cmp y z').1 ((List.pairwise_cons.1 h'.2).1 z' hz'')
      have hne : ¬ compareBytes x y = 0 := fun h0 => e ((cmp_zero x y).1 h0)
      obtain ⟨_, h2⟩ := cmpB_le x y z' hxy hyz
      have hne2 : ¬ compareBytes x z' = 0 := fun h0 => hne (h2 h0).1
      show compareBytes (bl (toBA x)) (bl (toBA z')) < 0
      rw [bl_toBA, bl_toBA]
      omega
theorem sorted_new (l : List ByteArray) : (compact ((l.map bl).mergeSort fun x y => decide (x ≤ y))).map toBA = newB l := by
  rw [compact_dedup]
  have hs : ((l.map bl).mergeSort fun x y => decide (x ≤ y)).Pairwise fun x y => x ≤ y := by
    have h := List.pairwise_mergeSort (le := fun (x y : List UInt8) => decide (x ≤ y)) (fun a b c h1 h2 => decide_eq_true (List.le_trans (of_decide_eq_true h1) (of_decide_eq_true h2))) (fun a b => by
      rw [Bool.or_eq_true, decide_eq_true_iff, decide_eq_true_iff]; exact List.le_total a b) (l.map bl)
    exact h.imp (fun h => of_decide_eq_true h)
  refine asc_uniqueB _ _ (dedupG_asc _ hs) (new_asc l) fun z => ?_
  rw [new_mem, List.mem_map]
  constructor
  · rintro ⟨x, hx, rfl⟩
    have := (dedupG_mem _ x).1 hx
    rw [List.mem_mergeSort, List.mem_map] at this
    obtain ⟨y, hy, rfl⟩ := this
    rw [toBA_bl]; exact hy
  · intro hz
    refine ⟨bl z, (dedupG_mem _ _).2 ?_, toBA_bl z⟩
    rw [List.mem_mergeSort]
    exact List.mem_map.2 ⟨z, hz, rfl⟩
end Go.Proofs.YtomhekohcadijaaGreatDoor
namespace Go.Proofs.YtomhekohcadijaaGreatDoor
open Go.RowKit Go.Shelf Go.Sort

def TabAt (w : World) (b : Nat) (l : List ByteArray) : Prop := ∃ v, w.cell? ⟨b, 0, none⟩ = some v ∧ Sl w 1 v l.length (strs l) ∧ b < w.heap.size
theorem tab_new {w1 : World} {v : Value} {l : List ByteArray} (h : Sl w1 1 v l.length (strs l)) (t : TypeId) : TabAt (w1.alloc (.cells #[v] t)) w1.heap.size l :=
  ⟨v, (Blk.new w1 #[v] t).1 0, h.below ((Below.refl _ _).alloc (Nat.le_refl _) _), by simp⟩
theorem strs_bl (l : List ByteArray) : strs l = (l.map bl).map encStr := by
  unfold strs
  rw [List.map_map]
  refine List.map_congr_left fun x _ => ?_
  show Value.string x = Value.string (toBA (bl x))
  rw [toBA_bl]
theorem sorted_strs (l : List ByteArray) : (Lib.compact ((l.map bl).mergeSort fun x y => decide (x ≤ y))).map encStr = strs (newB l) := by
  rw [← sorted_new l]
  unfold strs
  rw [List.map_map]; rfl
theorem sorted_len (l : List ByteArray) : (Lib.compact ((l.map bl).mergeSort fun x y => decide (x ≤ y))).length = (newB l).length := by
  have := congrArg List.length (sorted_new l)
  rwa [List.length_map] at this
theorem new_left {w w1 : World} {g cap n nn q : Nat} {os : Array Obj} {ss : List (List UInt8)} (hown : w1.ownsRow w.heap.size 9 1 (.slice (some ⟨g, 0, none⟩) n cap) n (ss.map encStr)) (hbel : Below w.heap.size w w1) (hbg : w.heap.size ≤ g) (hlen : ss.length = n) (w' : World)
    (hw' : w' = putRow encStr (Sort.ahead (grow (putRow encStr (Sort.ahead w1 nn) g 0 (ss.mergeSort fun x y => decide (x ≤ y)).toArray) os) q) g 0 (Lib.compact (ss.mergeSort fun x y => decide (x ≤ y)) ++ List.replicate (n - (Lib.compact (ss.mergeSort fun x y => decide (x ≤ y))).length) []).toArray) :
    w'.ownsRow w.heap.size 9 1 (.slice (some ⟨g, 0, none⟩) (Lib.compact (ss.mergeSort fun x y => decide (x ≤ y))).length cap) (Lib.compact (ss.mergeSort fun x y => decide (x ≤ y))).length ((Lib.compact (ss.mergeSort fun x y => decide (x ≤ y))).map encStr) ∧ Below w.heap.size w w' := by
  subst hw'
  have hl2 : (ss.mergeSort fun x y => decide (x ≤ y)).length = ss.length := List.length_mergeSort ss
  have hle := Lib.compact_length_le (ss.mergeSort fun x y => decide (x ≤ y))
  subst hlen
  rcases hown.2 with ⟨h0, _⟩ | ⟨g', cap', cur, hv, hbase, hb, h1, h2, h3, h4⟩
  · cases h0
  cases hv
  have hs := ownsRow_sorted (n := nn) (os := os) (ts := ss.mergeSort fun x y => decide (x ≤ y)) hl2 hbase hb h1 h2 h3
  have hc := Lib.ownsRow_putRow (q := q) (k := (Lib.compact (ss.mergeSort fun x y => decide (x ≤ y))).length) (ys := Lib.compact (ss.mergeSort fun x y => decide (x ≤ y)) ++ List.replicate (ss.length - (Lib.compact (ss.mergeSort fun x y => decide (x ≤ y))).length) []) hs (by simp; omega) (by omega)
  rw [List.take_left] at hc
  exact ⟨hc, Lib.below_putRow (hbel.grown (grownBy_sorted _) hbel.size (fun j hj => by cases hj; exact hbase)) hbg⟩
set_option maxRecDepth 100000 in
set_option maxHeartbeats 4000000 in
theorem names_New (va : Value) (l : List ByteArray) (w : World) (ha : SlA w 1 va l.length (strs l)) (hl : l.length ≤ 100000) :
    Calls Tryz.prog 215 #[va] w fun e w' => ∃ b, e = .returned (.pointer (some ⟨b, 0, none⟩)) ∧ TabAt w' b (newB l) ∧ w.heap.size ≤ b ∧ Below w.heap.size w w' := by
  by_cases h0 : 0 < l.length
  · obtain ⟨b1, o1, c1, rfl, hc1, hm1, hb1, hx1⟩ := ha.pos h0
    have CL := Lib.hid (Tryz.slices_Clone_string b1 o1 l.length c1 l w (Nat.le_refl _) (by omega) (fun j hj => by
      rw [hx1 j _ (strs_get hj), List.getD_eq_getElem?_getD, List.getElem?_eq_getElem hj]; rfl))
    have SL := Lib.hid (strs_bl l)
    have SN := Lib.hid (sorted_strs l)
    have SE := Lib.hid (sorted_len l)
    clear ha hx1
    go_enter Tryz.func215, Tryz.ntmps215
    go_wp2_with fail
    refine CL.out.mono ?_
    rintro e w1 ⟨v1, rfl, hown, hnn, hbel⟩
    rw [List.take_of_length_le (Nat.le_refl _), show l.map Value.string = (l.map bl).map encStr from SL.out] at hown
    obtain ⟨g, cap, rfl, hbg, hgl, hncap, hcm, hlen, hH⟩ := Lib.holds_of_ownsRow hown hnn
    have HOWN := Lib.hid hown
    have HBEL := Lib.hid hbel
    have SO := Lib.hid (Tryz.slices_Sort_string g 0 cap (l.map bl) w1 hH hgl (by rw [List.length_map]; omega))
    rw [List.length_map] at SO
    have HH := Lib.hid hH
    clear hown hbel hH hnn CL SL
    go_wp2_with fail
    refine SO.out.mono ?_
    rintro e w2 ⟨rfl, nn, os, hw2⟩
    have hl2 : ((l.map bl).mergeSort fun x y => decide (x ≤ y)).length = l.length := by rw [List.length_mergeSort, List.length_map]
    have hH2 : Holds encStr w2 g 0 ((l.map bl).mergeSort fun x y => decide (x ≤ y)).toArray := by
      rw [hw2]
      exact holds_grow encStr _ os g 0 _ (by simpa [putRow, mapBlock, Sort.ahead] using hgl) (holds_putRow encStr _ g 0 _ _ (holds_ahead encStr w1 nn g 0 _ HH.out) (by simp))
    have CO := Lib.hid (Tryz.slices_Compact_string g 0 cap ((l.map bl).mergeSort fun x y => decide (x ≤ y)) w2 hH2 (by omega) (by omega))
    rw [hl2] at CO
    have HW2 := Lib.hid hw2
    clear hH2 SO HH hw2
    go_wp2_with fail
    refine CO.out.mono ?_
    rintro e w3 ⟨rfl, q, hw3⟩
    have LE := new_left (w := w) (q := q) HOWN.out HBEL.out hbg (by simp) w3 (by rw [hw3, HW2.out])
    rw [SN.out, SE.out] at LE
    have HS := Lib.hid (Sl.of_own LE.1)
    have HB := Lib.hid LE.2
    have hz := LE.2.size
    rw [SE.out]
    clear LE hw3 CO HW2 HOWN HBEL SN SE hl2
    go_wp2
    go_ret
    exact ⟨_, rfl, tab_new HS.out _, hz, HB.out.alloc HB.out.size _⟩
  · obtain rfl : l = [] := List.eq_nil_of_length_eq_zero (by omega)
    obtain ⟨ao, ac, rfl⟩ := ha.form
    cases ao with
    | none =>
      clear ha
      go_enter Tryz.func215, Tryz.ntmps215
      go_wp2_with fail
      refine (Tryz.slices_Clone_string_nil 0 ac w).mono ?_
      rintro e w1 ⟨rfl, rfl⟩
      go_wp2_with fail
      refine (Tryz.slices_Sort_string_none none 0 _).mono ?_
      rintro e w2 ⟨rfl, rfl⟩
      go_wp2_with fail
      refine (Tryz.slices_Compact_string_empty none 0 _).mono ?_
      rintro e w3 ⟨rfl, rfl⟩
      go_wp2
      go_ret
      exact ⟨_, rfl, tab_new (Sl.nil _ _) _, Nat.le_refl _, (Below.refl _ _).alloc (Nat.le_refl _) _⟩
    | some a =>
      clear ha
      go_enter Tryz.func215, Tryz.ntmps215
      go_wp2_with fail
      refine (Tryz.slices_Clone_string_zero a ac w).mono ?_
      rintro e w1 ⟨v1, rfl, hown, hnn, hbel⟩
      obtain ⟨vo, vc, rfl⟩ := own_form hown
      have HS := Lib.hid (Sl.of_own hown)
      have HB := Lib.hid hbel
      have hz := hbel.size
      clear hown hnn hbel
      go_wp2_with fail
      refine (Tryz.slices_Sort_string_none _ _ _).mono ?_
      rintro e w2 ⟨rfl, rfl⟩
      go_wp2_with fail
      refine (Tryz.slices_Compact_string_empty _ _ _).mono ?_
      rintro e w3 ⟨rfl, rfl⟩
      go_wp2
      go_ret
      exact ⟨_, rfl, tab_new (l := []) HS.out _, hz, HB.out.alloc HB.out.size _⟩
end Go.Proofs.YtomhekohcadijaaGreatDoor
namespace Go.Proofs.YtomhekohcadijaaGreatDoor
open Go.RowKit Go.Shelf

end Go.Proofs.YtomhekohcadijaaGreatDoor
namespace Go.Proofs.YtomhekohcadijaaGreatDoor
open Go.RowKit Go.Shelf

end Go.Proofs.YtomhekohcadijaaGreatDoor
namespace Go.Proofs.YtomhekohcadijaaGreatDoor
open Go.RowKit Go.Shelf

section
variable {t ba bb : Nat} {a b : List ByteArray} {w : World}
end
end Go.Proofs.YtomhekohcadijaaGreatDoor
namespace Go.Proofs.YtomhekohcadijaaGreatDoor
open Go.RowKit Go.Shelf

section
variable {l : List ByteArray} {s : ByteArray} {k : Nat} {ss : List ByteArray}
end
end Go.Proofs.YtomhekohcadijaaGreatDoor
namespace Go.Proofs.YtomhekohcadijaaGreatDoor
open Go.RowKit Go.Shelf

def whoS (s : St) : List ByteArray := if s.k = 1 then [s.who] else []
def viaS (s : St) : List ByteArray := if s.k = 3 then [s.via] else []
def allPrins (l : List St) (g h : List Rl) (qs : List Qv) (F : Qv → List ByteArray) : List ByteArray := (allRoles l g h qs).map Rl.o ++ l.flatMap whoS ++ qs.flatMap F
def allNames (l : List St) (g h : List Rl) (qs : List Qv) : List ByteArray := (allRoles l g h qs).map Rl.n ++ l.flatMap viaS
def WhoF (w : World) (qs : List Qv) (F : Qv → List ByteArray) : Prop := ∀ q ∈ qs, SlA w 1 q.w (F q).length (strs (F q)) ∧ (F q).length ≤ 40
theorem WhoF.below {w w' : World} {qs : List Qv} {F : Qv → List ByteArray} (h : WhoF w qs F) (hb : Below w.heap.size w w') : WhoF w' qs F := fun q hq => ⟨(h q hq).1.below hb, (h q hq).2⟩

end Go.Proofs.YtomhekohcadijaaGreatDoor
namespace Go.Proofs.YtomhekohcadijaaGreatDoor
open Go.RowKit Go.Shelf

def fitsP (l : List St) (g h : List Rl) (qs : List Qv) (F : Qv → List ByteArray) : Bool := decide (qs.length ≤ 16) && (decide ((newB (allPrins l g h qs F)).length ≤ 16) && decide ((newB (allNames l g h qs)).length ≤ 12))
def risesAt (us : List ByteArray) (i : Nat) : Bool := isP 65 90 (bl (us.getD i emp)) && (decide (i = 0) || Op.bytesLess (us.getD (i - 1) emp).toList (us.getD i emp).toList)
def rises (us : List ByteArray) : Bool := (List.range us.length).all (risesAt us)
theorem rises_yes {us : List ByteArray} {k : Nat} (hk : ¬ k < us.length) (h : ∀ j, j < k → risesAt us j = true) : rises us = true := by
  unfold rises; rw [List.all_eq_true]
  intro j hj
  exact h j (by have := List.mem_range.1 hj; omega)
theorem rises_no {us : List ByteArray} {k : Nat} (hk : k < us.length) (h : risesAt us k = false) : rises us = false := by
  cases hr : rises us with
  | false => rfl
  | true =>
    unfold rises at hr
    rw [List.all_eq_true] at hr
    rw [hr k (List.mem_range.2 hk)] at h; cases h
theorem getD_at {us : List ByteArray} {k : Nat} (hk : k < us.length) : us.getD k emp = us[k] := by rw [List.getD_eq_getElem?_getD, List.getElem?_eq_getElem hk]; rfl
def rightQ (q : Qv) (us : List ByteArray) : Bool :=
  decide (1 ≤ q.k) && (decide (q.k ≤ 6) && (isRole q.a && (rises us &&
  (if 5 ≤ q.k then isRole q.b && decide (us.length = 0) else eqRl q.b noR && (decide (us.length ≤ 12) && (if q.k = 4 then decide (us.length = 0) else decide (q.k = 3) || decide (0 < us.length)))))))
def RightP (l : List St) (g h : List Rl) (qs : List Qv) (F : Qv → List ByteArray) : Prop := (∀ x ∈ l, rightS x = true) ∧ (∀ x ∈ g ++ h, isRole x = true) ∧ (∀ q ∈ qs, rightQ q (F q) = true) ∧ l = insAll [] l ∧ g = insAllR [] g ∧ h = insAllR [] h ∧ fitsP l g h qs F = true
def RightI (l : List St) (g h : List Rl) (qs : List Qv) (F : Qv → List ByteArray) (e : Ending) : Prop := ∃ b, e = .returned (.bool b) ∧ (b = true ↔ RightP l g h qs F)
theorem rightI_no {l : List St} {g h : List Rl} {qs : List Qv} {F : Qv → List ByteArray} (hn : ¬ RightP l g h qs F) : RightI l g h qs F (.returned (.bool false)) := ⟨false, rfl, ⟨(fun h => by cases h), fun h => absurd h hn⟩⟩
end Go.Proofs.YtomhekohcadijaaGreatDoor
