/- Plain laws of tables: the place of a text, a role's number, a statement's rule. Texts sorted and compacted are the row of all texts in order, each once. names.New: the row of all texts, in order, each once. names.Table: Len, At, Find, All; binary search at texts. slices.BinarySearch at texts in order; names.Table.Find. table.Table: New, Prins, Links, Roles, Role. The reference's rows of texts, and numbers: crupperref01.Has, Put, New; crupperref06.Place, Role (printed by gen_reftab.py). crupperref05.Prins, Names, to the letter (printed by gen_prinsl.py). crupperref05.Fits, crupperref04.Right, crupperref05.Right, to the letter (printed by gen_right6.py). query.second, least, Universal, rising, Right (printed by gen_qright.py). Queries and their lines, in plain Lean: what the reader of package query makes of tokens, and the document's answer. -/
import Derived.Test.YtnhkgfgbhedphaaGreatDoorPart5
import Derived.Lib.SlicesCompact
import Derived.Lib.RowBridge
import Derived.Sort.Walk0
import Derived.Sort.EncStr
import Derived.Test.YtnhkgfgbhedphaaGreatDoorShelf
import Derived.Sort.OwnSorted
import Derived.Sort.Grow
import Derived.Lib.OwnBridge
import Derived.Test.YtnhkgfgbhedphaaGreatDoorPart3
namespace Go.Proofs.YtnhkgfgbhedphaaGreatDoor
open Go.RowKit Go.Shelf

def newB (l : List ByteArray) : List ByteArray := insAllB [] l
theorem new_asc (l : List ByteArray) : AscB (newB l) := insAll_ascB l [] List.Pairwise.nil
theorem new_mem (l : List ByteArray) (x : ByteArray) : x ∈ newB l ↔ x ∈ l := by unfold newB; rw [insAll_memB]; simp
theorem new_len (l : List ByteArray) : (newB l).length ≤ l.length := by have := insAll_lenB l []; simpa [newB] using this
def idxB : List ByteArray → ByteArray → Nat
  | [], _ => 0
  | a :: r, s => if a = s then 0 else idxB r s + 1
def placeB (l : List ByteArray) (s : ByteArray) : Int := if hasB l s = true then (idxB l s : Int) else -1
theorem idxB_first : ∀ (l : List ByteArray) (s : ByteArray) (k : Nat) (hk : k < l.length), l[k] = s → (∀ j (hj : j < l.length), j < k → ¬ l[j] = s) → idxB l s = k
  | [], _, _, hk, _, _ => by simp at hk
  | a :: r, s, 0, _, h, _ => by
    have h' : a = s := h
    show (if a = s then 0 else idxB r s + 1) = 0
    rw [if_pos h']
  | a :: r, s, k + 1, hk, h, h' => by
    have h0 : ¬ a = s := h' 0 (by simp) (by omega)
    show (if a = s then 0 else idxB r s + 1) = k + 1
    rw [if_neg h0, idxB_first r s k (by simpa using hk) (by simpa using h) (fun j hj hjk e => h' (j + 1) (by simp; omega) (by omega) e)]
theorem place_first {l : List ByteArray} {s : ByteArray} {k : Nat} (hk : k < l.length) (h : l[k] = s) (h' : ∀ j (hj : j < l.length), j < k → ¬ l[j] = s) : placeB l s = k := by
  unfold placeB
  rw [if_pos ((hasB_mem l s).2 (h ▸ List.getElem_mem hk)), idxB_first l s k hk h h']
theorem place_no {l : List ByteArray} {s : ByteArray} (h : ∀ j (hj : j < l.length), ¬ l[j] = s) : placeB l s = -1 := by
  unfold placeB
  rw [if_neg]
  intro h1
  obtain ⟨j, hj, e⟩ := List.getElem_of_mem ((hasB_mem l s).1 h1)
  exact h j hj e
theorem place_asc {l : List ByteArray} (hl : AscB l) {s : ByteArray} {k : Nat} (hk : k < l.length) (h : l[k] = s) : placeB l s = k :=
  place_first hk h (fun j hj hjk e => by
    have := List.pairwise_iff_getElem.1 hl j k hj hk hjk
    rw [e, h] at this
    exact lt_irrefl'B s this)
theorem place_gap {l : List ByteArray} (_ : AscB l) {s : ByteArray} {k : Nat} (h1 : ∀ j (hj : j < l.length), j < k → cmpS l[j] s < 0) (h2 : ∀ j (hj : j < l.length), k ≤ j → ¬ cmpS l[j] s < 0) (h3 : ∀ hk : k < l.length, ¬ l[k] = s) (hl : AscB l) : placeB l s = -1 :=
  place_no (fun j hj e => by
    by_cases hjk : j < k
    · have := h1 j hj hjk
      rw [e] at this
      exact lt_irrefl'B s this
    · have hk : k < l.length := by omega
      by_cases hjk2 : j = k
      · subst hjk2; exact h3 hk e
      · have := List.pairwise_iff_getElem.1 hl k j hk hj (by omega)
        rw [e] at this
        exact h2 k hk (Nat.le_refl _) this)
structure Ru where
  k : Int
  h : Int
  who : Int
  a : Int
  b : Int
  via : Int
deriving DecidableEq
end Go.Proofs.YtnhkgfgbhedphaaGreatDoor
namespace Go.Proofs.YtnhkgfgbhedphaaGreatDoor
open Go.RowKit Go.Shelf Go.Lib Go.Sort

def dedupG {α : Type} [DecidableEq α] : List α → List α
  | [] => []
  | [x] => [x]
  | x :: y :: r => if x = y then dedupG (y :: r) else x :: dedupG (y :: r)
section
variable {α : Type} [DecidableEq α]
theorem dedupG_mem : ∀ (l : List α) (z : α), z ∈ dedupG l ↔ z ∈ l
  | [], z => by simp [dedupG]
  | [x], z => by simp [dedupG]
  | x :: y :: r, z => by
    have ih := dedupG_mem (y :: r) z
    unfold dedupG
    by_cases e : x = y
    · rw [if_pos e, ih, e]; simp
    · rw [if_neg e, List.mem_cons, ih, List.mem_cons (b := x)]
theorem dedupG_snoc : ∀ (p : List α) (y z : α), dedupG (p ++ [y, z]) = if y = z then dedupG (p ++ [y]) else dedupG (p ++ [y]) ++ [z]
  | [], y, z => by
    show dedupG [y, z] = if y = z then dedupG [y] else dedupG [y] ++ [z]
    unfold dedupG
    by_cases h : y = z
    · rw [if_pos h, if_pos h, h]; rfl
    · rw [if_neg h, if_neg h]; rfl
  | [x], y, z => by
    have ih := dedupG_snoc [] y z
    simp only [List.nil_append] at ih
    show dedupG (x :: y :: [z]) = if y = z then dedupG (x :: y :: []) else dedupG (x :: y :: []) ++ [z]
    have e1 : dedupG (x :: y :: [z]) = if x = y then dedupG [y, z] else x :: dedupG [y, z] := rfl
    have e2 : dedupG (x :: y :: []) = if x = y then dedupG [y] else x :: dedupG [y] := rfl
    rw [e1, e2, ih]
    by_cases h1 : x = y <;> by_cases h2 : y = z <;> simp [h1, h2]
  | x :: x' :: p, y, z => by
    have ih := dedupG_snoc (x' :: p) y z
    simp only [List.cons_append] at ih ⊢
    have e1 : ∀ r, dedupG (x :: x' :: r) = if x = x' then dedupG (x' :: r) else x :: dedupG (x' :: r) := fun _ => rfl
    rw [e1, e1, ih]
    by_cases h1 : x = x' <;> by_cases h2 : y = z <;> simp [h1, h2]
theorem compactUpTo_dedup [Inhabited α] (zs : List α) : ∀ m, m ≤ zs.length → compactUpTo zs.toArray m = dedupG (zs.take m)
  | 0, _ => rfl
  | 1, h => by
    rw [compactUpTo_succ, keeps_lt_one _ 0 (by omega)]
    match zs, h with
    | x :: r, _ => simp [compactUpTo, dedupG]
  | m + 2, h => by
    have ih := compactUpTo_dedup zs (m + 1) (by omega)
    have e0 : zs.toArray[m + 1]! = zs[m + 1] := by simp [show m + 1 < zs.length by omega]
    have e1 : zs.toArray[m]! = zs[m] := by simp [show m < zs.length by omega]
    have et : zs.take (m + 2) = zs.take m ++ [zs[m], zs[m + 1]] := by
      rw [List.take_succ_eq_append_getElem (by omega), List.take_succ_eq_append_getElem (by omega), List.append_assoc]; rfl
    have et1 : zs.take (m + 1) = zs.take m ++ [zs[m]] := List.take_succ_eq_append_getElem (by omega)
    rw [compactUpTo_succ, ih, et, dedupG_snoc, ← et1]
    by_cases e : zs[m] = zs[m + 1]
    · rw [if_pos e, keeps_neg (by omega) (by rw [e0, show m + 1 - 1 = m by omega, e1]; exact e.symm)]
      simp
    · rw [if_neg e, keeps_pos (by rw [e0, show m + 1 - 1 = m by omega, e1]; exact fun h => e h.symm), if_pos rfl, e0]
theorem compact_dedup [Inhabited α] (zs : List α) : compact zs = dedupG zs := by
  unfold compact
  rw [compactUpTo_dedup zs _ (Nat.le_refl _), List.take_of_length_le (Nat.le_refl _)]
end
def toBA (x : List UInt8) : ByteArray := ⟨x.toArray⟩
theorem bl_toBA (x : List UInt8) : bl (toBA x) = x := by simp [bl, toBA]
theorem toBA_bl (x : ByteArray) : toBA (bl x) = x := by cases x; simp [bl, toBA]
theorem le_cmp (x y : List UInt8) : x ≤ y ↔ compareBytes x y ≤ 0 := by
  have h1 := bytesLess_eq y x
  have h2 := cmp_less y x
  have h3 := cmp_neg x y
  rw [h1] at h2
  have h4 : y < x ↔ compareBytes y x < 0 := by
    constructor
    · intro h; exact of_decide_eq_true (h2 ▸ decide_eq_true h)
    · intro h; exact of_decide_eq_true (h2.symm ▸ decide_eq_true h)
  rw [← List.not_lt, h4]
  omega
theorem dedupG_asc : ∀ (l : List (List UInt8)), (l.Pairwise fun x y => x ≤ y) → AscB ((dedupG l).map toBA)
  | [], _ => List.Pairwise.nil
  | [x], _ => by simp [dedupG, AscB]
  | x :: y :: r, h => by
    have h' := List.pairwise_cons.1 h
    have ih := dedupG_asc (y :: r) h'.2
    unfold dedupG
    by_cases e : x = y
    · rw [if_pos e]; exact ih
    · rw [if_neg e, List.map_cons]
      refine List.pairwise_cons.2 ⟨fun z hz => ?_, ih⟩
      obtain ⟨z', hz', rfl⟩ := List.mem_map.1 hz
      have hz'' := (dedupG_mem (y :: r) z').1 hz'
      have hxz : compareBytes x z' ≤ 0 := (le_cmp x z').1 (h'.1 z' hz'')
      have hxy : compareBytes x y ≤ 0 := (le_cmp x y).1 (h'.1 y (by simp))
      have hyz : compareBytes y z' ≤ 0 := by
        rcases List.mem_cons.1 hz'' with rfl | hz''
        · have := (cmp_zero z' z').2 rfl; omega
        · exact (le_cmp y z').1 ((List.pairwise_cons.1 h'.2).1 z' hz'')
      have hne : ¬ compareBytes x y = 0 := fun h0 => e ((cmp_zero x y).1 h0)
      obtain ⟨_, h2⟩ := cmpB_le x y z' hxy hyz
      have hne2 : ¬ compareBytes x z' = 0 := fun h0 => hne (h2 h0).1
      show compareBytes (bl (toBA x)) (bl (toBA z')) < 0
      rw [bl_toBA, bl_toBA]
      omega
theorem sorted_new (l : List ByteArray) : (compact ((l.map bl).mergeSort fun x y => decide (x ≤ y))).map toBA = newB l := by
  rw [compact_dedup]
  have hs : ((l.map bl).mergeSort fun x y => decide (x ≤ y)).Pairwise fun x y => x ≤ y := by
    have h := List.pairwise_mergeSort (le := fun (x y : List UInt8) => decide (x ≤ y)) (fun a b c h1 h2 => decide_eq_true (List.le_trans (of_decide_eq_true h1) (of_decide_eq_true h2))) (fun a b => by
      rw [Bool.or_eq_true, decide_eq_true_iff, decide_eq_true_iff]; exact List.le_total a b) (l.map bl)
    exact h.imp (fun h => of_decide_eq_true h)
  refine asc_uniqueB _ _ (dedupG_asc _ hs) (new_asc l) fun z => ?_
  rw [new_mem, List.mem_map]
  constructor
  · rintro ⟨x, hx, rfl⟩
    have := (dedupG_mem _ x).1 hx
    rw [List.mem_mergeSort, List.mem_map] at this
    obtain ⟨y, hy, rfl⟩ := this
    rw [toBA_bl]; exact hy
  · intro hz
    refine ⟨bl z, (dedupG_mem _ _).2 ?_, toBA_bl z⟩
    rw [List.mem_mergeSort]
    exact List.mem_map.2 ⟨z, hz, rfl⟩
end Go.Proofs.YtnhkgfgbhedphaaGreatDoor
namespace Go.Proofs.YtnhkgfgbhedphaaGreatDoor
open Go.RowKit Go.Shelf Go.Sort

def TabAt (w : World) (b : Nat) (l : List ByteArray) : Prop := ∃ v, w.cell? ⟨b, 0, none⟩ = some v ∧ Sl w 1 v l.length (strs l) ∧ b < w.heap.size
theorem tab_new {w1 : World} {v : Value} {l : List ByteArray} (h : Sl w1 1 v l.length (strs l)) (t : TypeId) : TabAt (w1.alloc (.cells #[v] t)) w1.heap.size l :=
  ⟨v, (Blk.new w1 #[v] t).1 0, h.below ((Below.refl _ _).alloc (Nat.le_refl _) _), by simp⟩
theorem strs_bl (l : List ByteArray) : strs l = (l.map bl).map encStr := by
  unfold strs
  rw [List.map_map]
  refine List.map_congr_left fun x _ => ?_
  show Value.string x = Value.string (toBA (bl x))
  rw [toBA_bl]
theorem sorted_strs (l : List ByteArray) : (Lib.compact ((l.map bl).mergeSort fun x y => decide (x ≤ y))).map encStr = strs (newB l) := by
  rw [← sorted_new l]
  unfold strs
  rw [List.map_map]; rfl
theorem sorted_len (l : List ByteArray) : (Lib.compact ((l.map bl).mergeSort fun x y => decide (x ≤ y))).length = (newB l).length := by
  have := congrArg List.length (sorted_new l)
  rwa [List.length_map] at this
theorem new_left {w w1 : World} {g cap n nn q : Nat} {os : Array Obj} {ss : List (List UInt8)} (hown : w1.ownsRow w.heap.size 9 1 (.slice (some ⟨g, 0, none⟩) n cap) n (ss.map encStr)) (hbel : Below w.heap.size w w1) (hbg : w.heap.size ≤ g) (hlen : ss.length = n) (w' : World)
    (hw' : w' = putRow encStr (Sort.ahead (grow (putRow encStr (Sort.ahead w1 nn) g 0 (ss.mergeSort fun x y => decide (x ≤ y)).toArray) os) q) g 0 (Lib.compact (ss.mergeSort fun x y => decide (x ≤ y)) ++ List.replicate (n - (Lib.compact (ss.mergeSort fun x y => decide (x ≤ y))).length) []).toArray) :
    w'.ownsRow w.heap.size 9 1 (.slice (some ⟨g, 0, none⟩) (Lib.compact (ss.mergeSort fun x y => decide (x ≤ y))).length cap) (Lib.compact (ss.mergeSort fun x y => decide (x ≤ y))).length ((Lib.compact (ss.mergeSort fun x y => decide (x ≤ y))).map encStr) ∧ Below w.heap.size w w' := by
  subst hw'
  have hl2 : (ss.mergeSort fun x y => decide (x ≤ y)).length = ss.length := List.length_mergeSort ss
  have hle := Lib.compact_length_le (ss.mergeSort fun x y => decide (x ≤ y))
  subst hlen
  rcases hown.2 with ⟨h0, _⟩ | ⟨g', cap', cur, hv, hbase, hb, h1, h2, h3, h4⟩
  · cases h0
  cases hv
  have hs := ownsRow_sorted (n := nn) (os := os) (ts := ss.mergeSort fun x y => decide (x ≤ y)) hl2 hbase hb h1 h2 h3
  have hc := Lib.ownsRow_putRow (q := q) (k := (Lib.compact (ss.mergeSort fun x y => decide (x ≤ y))).length) (ys := Lib.compact (ss.mergeSort fun x y => decide (x ≤ y)) ++ List.replicate (ss.length - (Lib.compact (ss.mergeSort fun x y => decide (x ≤ y))).length) []) hs (by simp; omega) (by omega)
  rw [List.take_left] at hc
  exact ⟨hc, Lib.below_putRow (hbel.grown (grownBy_sorted _) hbel.size (fun j hj => by cases hj; exact hbase)) hbg⟩
set_option maxRecDepth 100000 in
set_option maxHeartbeats 4000000 in
theorem names_New (va : Value) (l : List ByteArray) (w : World) (ha : SlA w 1 va l.length (strs l)) (hl : l.length ≤ 100000) :
    Calls Tryz.prog 92 #[va] w fun e w' => ∃ b, e = .returned (.pointer (some ⟨b, 0, none⟩)) ∧ TabAt w' b (newB l) ∧ w.heap.size ≤ b ∧ Below w.heap.size w w' := by
  by_cases h0 : 0 < l.length
  · obtain ⟨b1, o1, c1, rfl, hc1, hm1, hb1, hx1⟩ := ha.pos h0
    have CL := Lib.hid (Tryz.slices_Clone_string b1 o1 l.length c1 l w (Nat.le_refl _) (by omega) (fun j hj => by
      rw [hx1 j _ (strs_get hj), List.getD_eq_getElem?_getD, List.getElem?_eq_getElem hj]; rfl))
    have SL := Lib.hid (strs_bl l)
    have SN := Lib.hid (sorted_strs l)
    have SE := Lib.hid (sorted_len l)
    clear ha hx1
    go_enter Tryz.func92, Tryz.ntmps92
    go_wp2_with fail
    refine CL.out.mono ?_
    rintro e w1 ⟨v1, rfl, hown, hnn, hbel⟩
    rw [List.take_of_length_le (Nat.le_refl _), show l.map Value.string = (l.map bl).map encStr from SL.out] at hown
    obtain ⟨g, cap, rfl, hbg, hgl, hncap, hcm, hlen, hH⟩ := Lib.holds_of_ownsRow hown hnn
    have HOWN := Lib.hid hown
    have HBEL := Lib.hid hbel
    have SO := Lib.hid (Tryz.slices_Sort_string g 0 cap (l.map bl) w1 hH hgl (by rw [List.length_map]; omega))
    rw [List.length_map] at SO
    have HH := Lib.hid hH
    clear hown hbel hH hnn CL SL
    go_wp2_with fail
    refine SO.out.mono ?_
    rintro e w2 ⟨rfl, nn, os, hw2⟩
    have hl2 : ((l.map bl).mergeSort fun x y => decide (x ≤ y)).length = l.length := by rw [List.length_mergeSort, List.length_map]
    have hH2 : Holds encStr w2 g 0 ((l.map bl).mergeSort fun x y => decide (x ≤ y)).toArray := by
      rw [hw2]
      exact holds_grow encStr _ os g 0 _ (by simpa [putRow, mapBlock, Sort.ahead] using hgl) (holds_putRow encStr _ g 0 _ _ (holds_ahead encStr w1 nn g 0 _ HH.out) (by simp))
    have CO := Lib.hid (Tryz.slices_Compact_string g 0 cap ((l.map bl).mergeSort fun x y => decide (x ≤ y)) w2 hH2 (by omega) (by omega))
    rw [hl2] at CO
    have HW2 := Lib.hid hw2
    clear hH2 SO HH hw2
    go_wp2_with fail
    refine CO.out.mono ?_
    rintro e w3 ⟨rfl, q, hw3⟩
    have LE := new_left (w := w) (q := q) HOWN.out HBEL.out hbg (by simp) w3 (by rw [hw3, HW2.out])
    rw [SN.out, SE.out] at LE
    have HS := Lib.hid (Sl.of_own LE.1)
    have HB := Lib.hid LE.2
    have hz := LE.2.size
    rw [SE.out]
    clear LE hw3 CO HW2 HOWN HBEL SN SE hl2
    go_wp2
    go_ret
    exact ⟨_, rfl, tab_new HS.out _, hz, HB.out.alloc HB.out.size _⟩
  · obtain rfl : l = [] := List.eq_nil_of_length_eq_zero (by omega)
    obtain ⟨ao, ac, rfl⟩ := ha.form
    cases ao with
    | none =>
      clear ha
      go_enter Tryz.func92, Tryz.ntmps92
      go_wp2_with fail
      refine (Tryz.slices_Clone_string_nil 0 ac w).mono ?_
      rintro e w1 ⟨rfl, rfl⟩
      go_wp2_with fail
      refine (Tryz.slices_Sort_string_none none 0 _).mono ?_
      rintro e w2 ⟨rfl, rfl⟩
      go_wp2_with fail
      refine (Tryz.slices_Compact_string_empty none 0 _).mono ?_
      rintro e w3 ⟨rfl, rfl⟩
      go_wp2
      go_ret
      exact ⟨_, rfl, tab_new (Sl.nil _ _) _, Nat.le_refl _, (Below.refl _ _).alloc (Nat.le_refl _) _⟩
    | some a =>
      clear ha
      go_enter Tryz.func92, Tryz.ntmps92
      go_wp2_with fail
      refine (Tryz.slices_Clone_string_zero a ac w).mono ?_
      rintro e w1 ⟨v1, rfl, hown, hnn, hbel⟩
      obtain ⟨vo, vc, rfl⟩ := own_form hown
      have HS := Lib.hid (Sl.of_own hown)
      have HB := Lib.hid hbel
      have hz := hbel.size
      clear hown hnn hbel
      go_wp2_with fail
      refine (Tryz.slices_Sort_string_none _ _ _).mono ?_
      rintro e w2 ⟨rfl, rfl⟩
      go_wp2_with fail
      refine (Tryz.slices_Compact_string_empty _ _ _).mono ?_
      rintro e w3 ⟨rfl, rfl⟩
      go_wp2
      go_ret
      exact ⟨_, rfl, tab_new (l := []) HS.out _, hz, HB.out.alloc HB.out.size _⟩
end Go.Proofs.YtnhkgfgbhedphaaGreatDoor
namespace Go.Proofs.YtnhkgfgbhedphaaGreatDoor
open Go.RowKit Go.Shelf

theorem cmp_isNaNs (s : ByteArray) (w : World) : Calls Tryz.prog 266 #[.string s] w fun e w' => e = .returned (.bool false) ∧ w' = w := by
  go_enter Tryz.func266, Tryz.ntmps266
  go_wp2
  go_ret
  exact ⟨by simp, rfl⟩
theorem sl_isNaNs (s : ByteArray) (w : World) : Calls Tryz.prog 256 #[.string s] w fun e w' => e = .returned (.bool false) ∧ w' = w := by
  go_enter Tryz.func256, Tryz.ntmps256
  go_wp2
  go_ret
  exact ⟨by simp, rfl⟩
theorem cmp_LessS (x y : ByteArray) (w : World) : Calls Tryz.prog 242 #[.string x, .string y] w fun e w' => e = .returned (.bool (decide (cmpS x y < 0))) ∧ w' = w := by
  have N := Lib.hid (fun W => cmp_isNaNs x W)
  have E := Lib.hid (str_less x y)
  generalize decide (cmpS x y < 0) = r at E ⊢
  go_enter Tryz.func242, Tryz.ntmps242
  go_wp2_with fail
  refine (N.out _).mono ?_
  rintro e w1 ⟨rfl, rfl⟩
  go_wp2
  go_ret
  exact ⟨by rw [E.out]; rfl, rfl⟩
end Go.Proofs.YtnhkgfgbhedphaaGreatDoor
namespace Go.Proofs.YtnhkgfgbhedphaaGreatDoor
open Go.RowKit Go.Shelf

theorem search_yes {l : List ByteArray} (hl : AscB l) {s : ByteArray} {h : Nat} (hh : h < l.length) (e : cmpS l[h] s < 0) : ∀ k (hk : k < l.length), k < h + 1 → cmpS l[k] s < 0 := fun k hk hkh => by
  by_cases h' : k = h
  · subst h'; exact e
  · exact lt_trans'B (List.pairwise_iff_getElem.1 hl k h hk hh (by omega)) e
theorem search_no {l : List ByteArray} (hl : AscB l) {s : ByteArray} {h : Nat} (hh : h < l.length) (e : ¬ cmpS l[h] s < 0) : ∀ k (hk : k < l.length), h ≤ k → ¬ cmpS l[k] s < 0 := fun k hk hkh e' => by
  by_cases h' : k = h
  · subst h'; exact e e'
  · exact e (lt_trans'B (List.pairwise_iff_getElem.1 hl h k hh hk (by omega)) e')
end Go.Proofs.YtnhkgfgbhedphaaGreatDoor
namespace Go.Proofs.YtnhkgfgbhedphaaGreatDoor
open Go.RowKit Go.Shelf

section
variable {t ba bb : Nat} {a b : List ByteArray} {w : World}
end
end Go.Proofs.YtnhkgfgbhedphaaGreatDoor
namespace Go.Proofs.YtnhkgfgbhedphaaGreatDoor
open Go.RowKit Go.Shelf

section
variable {l : List ByteArray} {s : ByteArray} {k : Nat} {ss : List ByteArray}
end
end Go.Proofs.YtnhkgfgbhedphaaGreatDoor
namespace Go.Proofs.YtnhkgfgbhedphaaGreatDoor
open Go.RowKit Go.Shelf

def whoS (s : St) : List ByteArray := if s.k = 1 then [s.who] else []
def viaS (s : St) : List ByteArray := if s.k = 3 then [s.via] else []
def allPrins (l : List St) (g h : List Rl) (qs : List Qv) (F : Qv → List ByteArray) : List ByteArray := (allRoles l g h qs).map Rl.o ++ l.flatMap whoS ++ qs.flatMap F
def allNames (l : List St) (g h : List Rl) (qs : List Qv) : List ByteArray := (allRoles l g h qs).map Rl.n ++ l.flatMap viaS
def WhoF (w : World) (qs : List Qv) (F : Qv → List ByteArray) : Prop := ∀ q ∈ qs, SlA w 1 q.w (F q).length (strs (F q)) ∧ (F q).length ≤ 40
theorem WhoF.below {w w' : World} {qs : List Qv} {F : Qv → List ByteArray} (h : WhoF w qs F) (hb : Below w.heap.size w w') : WhoF w' qs F := fun q hq => ⟨(h q hq).1.below hb, (h q hq).2⟩

end Go.Proofs.YtnhkgfgbhedphaaGreatDoor
namespace Go.Proofs.YtnhkgfgbhedphaaGreatDoor
open Go.RowKit Go.Shelf

def fitsP (l : List St) (g h : List Rl) (qs : List Qv) (F : Qv → List ByteArray) : Bool := decide (qs.length ≤ 16) && (decide ((newB (allPrins l g h qs F)).length ≤ 16) && decide ((newB (allNames l g h qs)).length ≤ 12))
def risesAt (us : List ByteArray) (i : Nat) : Bool := isP 65 90 (bl (us.getD i emp)) && (decide (i = 0) || Op.bytesLess (us.getD (i - 1) emp).toList (us.getD i emp).toList)
def rises (us : List ByteArray) : Bool := (List.range us.length).all (risesAt us)
theorem rises_yes {us : List ByteArray} {k : Nat} (hk : ¬ k < us.length) (h : ∀ j, j < k → risesAt us j = true) : rises us = true := by
  unfold rises; rw [List.all_eq_true]
  intro j hj
  exact h j (by have := List.mem_range.1 hj; omega)
theorem rises_no {us : List ByteArray} {k : Nat} (hk : k < us.length) (h : risesAt us k = false) : rises us = false := by
  cases hr : rises us with
  | false => rfl
  | true =>
    unfold rises at hr
    rw [List.all_eq_true] at hr
    rw [hr k (List.mem_range.2 hk)] at h; cases h
theorem getD_at {us : List ByteArray} {k : Nat} (hk : k < us.length) : us.getD k emp = us[k] := by rw [List.getD_eq_getElem?_getD, List.getElem?_eq_getElem hk]; rfl
def rightQ (q : Qv) (us : List ByteArray) : Bool :=
  decide (1 ≤ q.k) && (decide (q.k ≤ 6) && (isRole q.a && (rises us &&
  (if 5 ≤ q.k then isRole q.b && decide (us.length = 0) else eqRl q.b noR && (decide (us.length ≤ 12) && (if q.k = 4 then decide (us.length = 0) else decide (q.k = 3) || decide (0 < us.length)))))))
def RightP (l : List St) (g h : List Rl) (qs : List Qv) (F : Qv → List ByteArray) : Prop := (∀ x ∈ l, rightS x = true) ∧ (∀ x ∈ g ++ h, isRole x = true) ∧ (∀ q ∈ qs, rightQ q (F q) = true) ∧ l = insAll [] l ∧ g = insAllR [] g ∧ h = insAllR [] h ∧ fitsP l g h qs F = true
def RightI (l : List St) (g h : List Rl) (qs : List Qv) (F : Qv → List ByteArray) (e : Ending) : Prop := ∃ b, e = .returned (.bool b) ∧ (b = true ↔ RightP l g h qs F)
theorem rightI_no {l : List St} {g h : List Rl} {qs : List Qv} {F : Qv → List ByteArray} (hn : ¬ RightP l g h qs F) : RightI l g h qs F (.returned (.bool false)) := ⟨false, rfl, ⟨(fun h => by cases h), fun h => absurd h hn⟩⟩
end Go.Proofs.YtnhkgfgbhedphaaGreatDoor
namespace Go.Proofs.YtnhkgfgbhedphaaGreatDoor
open Go.RowKit Go.Shelf

def secB (k : Int) : Bool := decide (k = 5) || decide (k = 6)
def leastI (k : Int) : Int := if k = 1 ∨ k = 2 then 1 else if k = 3 then 0 else -1
def univB (k : Int) : Bool := decide (k = 1) || decide (k = 3) || decide (k = 5) || decide (k = 6)
theorem query_secondB (k : Int) (w : World) : Calls Tryz.prog 123 #[.int .i64 k] w fun e w' => e = .returned (.bool (secB k)) ∧ w' = w := by
  have R := Lib.hid (show secB k = (decide (k = 5) || decide (k = 6)) from rfl)
  generalize secB k = r at *
  go_enter Tryz.func123, Tryz.ntmps123
  by_cases h5 : k = 5
  · have d5 : (k == 5) = true := by simp [h5]
    have R2 := Lib.hid (show r = true by rw [R.out, decide_eq_true h5]; rfl)
    clear h5
    go_wp2
    go_ret
    exact ⟨ret_b R2.out.symm, rfl⟩
  · have d5 : (k == 5) = false := by simp [h5]
    by_cases h6 : k = 6
    · have d6 : (k == 6) = true := by simp [h6]
      have R2 := Lib.hid (show r = true by rw [R.out, decide_eq_true h6, Bool.or_true])
      clear h5 h6
      go_wp2
      go_ret
      exact ⟨ret_b R2.out.symm, rfl⟩
    · have d6 : (k == 6) = false := by simp [h6]
      have R2 := Lib.hid (show r = false by rw [R.out, decide_eq_false h5, decide_eq_false h6]; rfl)
      clear h5 h6
      go_wp2
      go_ret
      exact ⟨ret_b R2.out.symm, rfl⟩
theorem query_least (k : Int) (w : World) : Calls Tryz.prog 130 #[.int .i64 k] w fun e w' => e = .returned (.int .i64 (leastI k)) ∧ w' = w := by
  have R := Lib.hid (show leastI k = if k = 1 ∨ k = 2 then 1 else if k = 3 then 0 else -1 from rfl)
  generalize leastI k = r at *
  go_enter Tryz.func130, Tryz.ntmps130
  by_cases h1 : k = 1
  · have d1 : (k == 1) = true := by simp [h1]
    have R2 := Lib.hid (show r = 1 by rw [R.out, if_pos (.inl h1)])
    clear h1
    go_wp2
    go_ret
    exact ⟨ret_int R2.out.symm, rfl⟩
  have d1 : (k == 1) = false := by simp [h1]
  by_cases h2 : k = 2
  · have d2 : (k == 2) = true := by simp [h2]
    have R2 := Lib.hid (show r = 1 by rw [R.out, if_pos (.inr h2)])
    clear h1 h2
    go_wp2
    go_ret
    exact ⟨ret_int R2.out.symm, rfl⟩
  have d2 : (k == 2) = false := by simp [h2]
  by_cases h3 : k = 3
  · have d3 : (k == 3) = true := by simp [h3]
    have R2 := Lib.hid (show r = 0 by rw [R.out, if_neg (by omega), if_pos h3])
    clear h1 h2 h3
    go_wp2
    go_ret
    exact ⟨ret_int R2.out.symm, rfl⟩
  · have d3 : (k == 3) = false := by simp [h3]
    have R2 := Lib.hid (show r = -1 by rw [R.out, if_neg (by omega), if_neg h3])
    clear h1 h2 h3
    go_wp2
    go_ret
    exact ⟨ret_int R2.out.symm, rfl⟩
theorem query_Universal (k : Int) (w : World) : Calls Tryz.prog 188 #[.int .i64 k] w fun e w' => e = .returned (.bool (univB k)) ∧ w' = w := by
  have R := Lib.hid (show univB k = (decide (k = 1) || decide (k = 3) || decide (k = 5) || decide (k = 6)) from rfl)
  generalize univB k = r at *
  go_enter Tryz.func188, Tryz.ntmps188
  by_cases h1 : k = 1
  · have d1 : (k == 1) = true := by simp [h1]
    have R2 := Lib.hid (show r = true by rw [R.out, decide_eq_true h1]; rfl)
    clear h1
    go_wp2
    go_ret
    exact ⟨ret_b R2.out.symm, rfl⟩
  have d1 : (k == 1) = false := by simp [h1]
  by_cases h3 : k = 3
  · have d3 : (k == 3) = true := by simp [h3]
    have R2 := Lib.hid (show r = true by rw [R.out, decide_eq_true h3, Bool.or_true]; rfl)
    clear h1 h3
    go_wp2
    go_ret
    exact ⟨ret_b R2.out.symm, rfl⟩
  have d3 : (k == 3) = false := by simp [h3]
  by_cases h5 : k = 5
  · have d5 : (k == 5) = true := by simp [h5]
    have R2 := Lib.hid (show r = true by rw [R.out, decide_eq_true h5, Bool.or_true]; rfl)
    clear h1 h3 h5
    go_wp2
    go_ret
    exact ⟨ret_b R2.out.symm, rfl⟩
  have d5 : (k == 5) = false := by simp [h5]
  by_cases h6 : k = 6
  · have d6 : (k == 6) = true := by simp [h6]
    have R2 := Lib.hid (show r = true by rw [R.out, decide_eq_true h6, Bool.or_true])
    clear h1 h3 h5 h6
    go_wp2
    go_ret
    exact ⟨ret_b R2.out.symm, rfl⟩
  · have d6 : (k == 6) = false := by simp [h6]
    have R2 := Lib.hid (show r = false by rw [R.out, decide_eq_false h1, decide_eq_false h3, decide_eq_false h5, decide_eq_false h6]; rfl)
    clear h1 h3 h5 h6
    go_wp2
    go_ret
    exact ⟨ret_b R2.out.symm, rfl⟩
theorem less_rev {a b : ByteArray} (h : Op.bytesLess a.toList b.toList = true) : Op.bytesLess b.toList a.toList = false ∧ (b.toList == a.toList) = false := by
  rw [← str_less, decide_eq_true_iff] at h
  have h2 := cmpS_neg a b
  refine ⟨by rw [← str_less, decide_eq_false_iff_not]; omega, ?_⟩
  rw [beq_str, decide_eq_false_iff_not]
  intro e
  have := (cmpS_zero b a).2 e
  omega
theorem less_not {a b : ByteArray} (h : Op.bytesLess a.toList b.toList = false) : Op.bytesLess b.toList a.toList = true ∨ (b.toList == a.toList) = true := by
  rw [← str_less, decide_eq_false_iff_not] at h
  have h2 := cmpS_neg a b
  by_cases e : b = a
  · exact .inr (by rw [beq_str, e]; exact decide_eq_true rfl)
  · have : ¬ cmpS b a = 0 := fun h' => e ((cmpS_zero b a).1 h')
    exact .inl (by rw [← str_less, decide_eq_true_iff]; omega)
set_option maxRecDepth 100000 in
set_option maxHeartbeats 2000000 in
theorem query_rising (v : Value) (us : List ByteArray) (w : World) (hu : SlA w 1 v us.length (strs us)) (hz : ∀ s ∈ us, s.size ≤ 9223372036854775807) : Calls Tryz.prog 129 #[v] w fun e w' => e = .returned (.bool (rises us)) ∧ Below w.heap.size w w' := by
  have HU := Lib.hid hu
  have HUZ := Lib.hid hz
  have hmax := hu.max
  obtain ⟨wo, wc, rfl⟩ := hu.form
  clear hu hz
  have RY := Lib.hid (fun k (hk : ¬ k < us.length) h => rises_yes (us := us) (k := k) hk h)
  have RN := Lib.hid (fun k (hk : k < us.length) h => rises_no (us := us) (k := k) hk h)
  generalize rises us = res at RY RN ⊢
  go_enter Tryz.func129, Tryz.ntmps129
  go_wp2_with fail
  go_loopw [7] (fun i wr => ∃ k : Nat, k ≤ us.length ∧ i = .int .i64 k ∧ Hid (Below w.heap.size w wr) ∧ Hid (∀ j, j < k → risesAt us j = true)) (fun i _ => us.length - (intOf i).toNat)
  case atStart => exact ⟨0, by omega, rfl, Lib.hid (Below.refl _ _), Lib.hid (fun j h => absurd h (by omega))⟩
  case round =>
    obtain ⟨k, hk, rfl, HB, HJ⟩ := hrel
    by_cases hlt : k < us.length
    · obtain ⟨b1, o1, c1, he1, hc1, hm1, hb1, hx1⟩ := HU.out.pos (by omega)
      simp only [Value.slice.injEq, true_and] at he1
      obtain ⟨rfl, rfl⟩ := he1
      have p0 := (HB.out.cell (p := ⟨b1, o1 + k, none⟩) hb1).trans (hx1 k _ (strs_get hlt))
      have hbr : b1 < wr.heap.size := Nat.lt_of_lt_of_le hb1 HB.out.size
      have IP := Lib.hid (fun W => names_IsPrin us[k] W (HUZ.out _ (List.getElem_mem hlt)))
      have HRA := Lib.hid (show risesAt us k = (isP 65 90 (bl us[k]) && (decide (k = 0) || Op.bytesLess (us.getD (k - 1) emp).toList us[k].toList)) by unfold risesAt; rw [getD_at hlt])
      have HJS : Hid (risesAt us k = true → ∀ j, j < k + 1 → risesAt us j = true) := Lib.hid (fun h j hj => by
        by_cases e : j = k
        · rw [e]; exact h
        · exact HJ.out j (by omega))
      have HNO := Lib.hid (fun (h : risesAt us k = false) => RN.out k hlt h)
      generalize isP 65 90 (bl us[k]) = rp at IP HRA
      cases rp with
      | false =>
        clear hx1
        go_wp2_with fail
        refine (IP.out _).mono ?_
        rintro e w2 ⟨rfl, rfl⟩
        go_wp2
        go_ret
        exact ⟨ret_b (HNO.out (by rw [HRA.out]; rfl)).symm, HB.out⟩
      | true =>
        by_cases hk0 : k = 0
        · have dk : decide (0 < k) = false := by (rw [decide_eq_false_iff_not]; omega)
          have HS := Lib.hid (HJS.out (by rw [HRA.out, decide_eq_true hk0]; rfl))
          clear hx1 hk0
          go_wp2_with fail
          refine (IP.out _).mono ?_
          rintro e w2 ⟨rfl, rfl⟩
          go_wp2
          exact ⟨⟨k + 1, by omega, by go_num, HB, HS⟩, by simp [intOf]; omega⟩
        · obtain ⟨m, hm⟩ : ∃ m, k = m + 1 := ⟨k - 1, by omega⟩
          have dk : decide (0 < k) = true := by (rw [decide_eq_true_iff]; omega)
          have hw1 : IntKind.i64.wrap ((k : Int) - 1) = (m : Int) := by rw [show (k : Int) - 1 = (m : Int) by omega]; exact Go.IntWalk.i64_in _ (by omega)
          have hml : m < us.length := by omega
          have hmi : (0 : Int) ≤ (m : Int) := by omega
          have q0 := (HB.out.cell (p := ⟨b1, o1 + m, none⟩) hb1).trans (hx1 m _ (strs_get hml))
          rw [decide_eq_false hk0, Bool.false_or, show k - 1 = m by omega, getD_at hml, Bool.true_and] at HRA
          clear hx1 hk0 hm
          go_wp2_with fail
          refine (IP.out _).mono ?_
          rintro e w2 ⟨rfl, rfl⟩
          generalize us[k] = sk at *
          generalize us[m] = sm at *
          cases hbl : Op.bytesLess sm.toList sk.toList with
          | false =>
            have HBL := Lib.hid hbl
            rcases less_not hbl with hl | hl <;> clear hbl
            all_goals
              go_wp2
              go_ret
              exact ⟨ret_b (HNO.out (by rw [HRA.out]; exact HBL.out)).symm, HB.out⟩
          | true =>
            obtain ⟨hl1, hl2⟩ := less_rev hbl
            have HS := Lib.hid (HJS.out (by rw [HRA.out]; exact hbl))
            go_wp2
            exact ⟨⟨k + 1, by omega, by go_num, HB, HS⟩, by simp [intOf]; omega⟩
    · have R := Lib.hid (RY.out k hlt HJ.out)
      go_wp2
      go_ret
      exact ⟨ret_b R.out.symm, HB.out⟩
theorem noR_role : isRole noR = false := by kernel_rfl
set_option maxRecDepth 100000 in
set_option maxHeartbeats 16000000 in
theorem query_RightL (q : Qv) (us : List ByteArray) (w : World) (hla : q.a.le 4294967) (hlb : q.b.le 4294967) (hu1 : SlA w 1 q.w us.length (strs us)) (hu3 : ∀ s ∈ us, s.size ≤ 9223372036854775807) : Calls Tryz.prog 78 #[qv q] w fun e w' => e = .returned (.bool (rightQ q us)) ∧ Below w.heap.size w w' := by
  have RES := Lib.hid (show rightQ q us = (decide (1 ≤ q.k) && (decide (q.k ≤ 6) && (isRole q.a && (rises us && (if 5 ≤ q.k then isRole q.b && decide (us.length = 0) else eqRl q.b noR && (decide (us.length ≤ 12) && (if q.k = 4 then decide (us.length = 0) else decide (q.k = 3) || decide (0 < us.length)))))))) from rfl)
  generalize rightQ q us = res at RES ⊢
  obtain ⟨xk, ⟨x1, x2⟩, ⟨x3, x4⟩, wv⟩ := q
  have hmax := hu1.max
  dsimp only at RES hu1 hla hlb
  have IA := Lib.hid (fun W => syn_IsRole ⟨x1, x2⟩ W hla)
  have IB := Lib.hid (fun W => syn_IsRole ⟨x3, x4⟩ W hlb)
  have RI := Lib.hid (fun W (hb : Below w.heap.size w W) => query_rising wv us W (hu1.below hb) hu3)
  generalize isRole ⟨x1, x2⟩ = ra at IA RES
  generalize rises us = ri at RI RES
  obtain ⟨wo, wc, rfl⟩ := hu1.form
  have HT := Lib.hid (show OneAt w #[.int .i64 xk, .string x1, .string x2, .string x3, .string x4, .slice wo us.length wc] (w.alloc (.cells #[.int .i64 xk, .string x1, .string x2, .string x3, .string x4, .slice wo us.length wc] 66)) from ⟨Blk.new w _ _, (Below.refl _ _).alloc (Nat.le_refl _) _⟩)
  clear hla hlb hu1 hu3
  go_enter Tryz.func78, Tryz.ntmps78
  by_cases k1 : xk < 1
  · have d1 : decide (xk < 1) = true := decide_eq_true k1
    have R := Lib.hid (show res = false by rw [RES.out, decide_eq_false (show ¬ 1 ≤ xk by omega)]; rfl)
    clear k1
    go_wp2
    go_ret
    exact ⟨ret_b R.out.symm, HT.out.low⟩
  have d1 : decide (xk < 1) = false := decide_eq_false k1
  by_cases k6 : 6 < xk
  · have d6 : decide (6 < xk) = true := decide_eq_true k6
    have R := Lib.hid (show res = false by rw [RES.out, decide_eq_true (show 1 ≤ xk by omega), decide_eq_false (show ¬ xk ≤ 6 by omega)]; rfl)
    clear k1 k6
    go_wp2
    go_ret
    exact ⟨ret_b R.out.symm, HT.out.low⟩
  have d6 : decide (6 < xk) = false := decide_eq_false k6
  rw [decide_eq_true (show 1 ≤ xk by omega), decide_eq_true (show xk ≤ 6 by omega), Bool.true_and, Bool.true_and] at RES
  have HK := Lib.hid (And.intro k1 k6)
  clear k1 k6
  go_wp2_with fail
  refine (IA.out _).mono ?_
  rintro e w1 ⟨rfl, hb1⟩
  have HT := Lib.hid (HT.out.later hb1)
  clear hb1
  cases ra with
  | false =>
    go_wp2
    go_ret
    exact ⟨ret_b (by rw [RES.out]; rfl), HT.out.low⟩
  | true =>
  rw [Bool.true_and] at RES
  obtain ⟨ca, fa, za⟩ := HT.out.a
  go_wp2_with fail
  refine (RI.out _ HT.out.low).mono ?_
  rintro e wr ⟨rfl, hb1⟩
  have HT := Lib.hid (HT.out.later hb1)
  clear hb1 ca fa za RI
  cases ri with
  | false =>
    go_wp2
    go_ret
    exact ⟨ret_b (by rw [RES.out]; rfl), HT.out.low⟩
  | true =>
  rw [Bool.true_and] at RES
  have hk : xk = 1 ∨ xk = 2 ∨ xk = 3 ∨ xk = 4 ∨ xk = 5 ∨ xk = 6 := by have := HK.out.1; have := HK.out.2; omega
  clear HK d1 d6
  obtain ⟨eb, heb⟩ : ∃ e, eqRl ⟨x3, x4⟩ ⟨emp, emp⟩ = e := ⟨_, rfl⟩
  have HEB := Lib.hid heb
  have RBN := Lib.hid (fun (h : eb = true) => show isRole ⟨x3, x4⟩ = false by rw [show (⟨x3, x4⟩ : Rl) = noR from of_decide_eq_true (heb.trans h)]; exact noR_role)
  clear heb
  rcases hk with rfl | rfl | rfl | rfl | rfl | rfl
  · have RS : Hid (res = (eqRl ⟨x3, x4⟩ noR && (decide (us.length ≤ 12) && decide (0 < us.length)))) := Lib.hid (RES.out.trans (by rfl))
    clear RES
    rw [show eqRl ⟨x3, x4⟩ noR = eb from HEB.out] at RS
    have SE := Lib.hid (fun W => query_secondB 1 W)
    have SB := Lib.hid (show secB 1 = false from rfl)
    rw [SB.out] at SE
    have LE := Lib.hid (fun W => query_least 1 W)
    rw [show leastI 1 = 1 from rfl] at LE
    have HNe := fun W => role_neq x3 x4 emp emp W
    rw [show eqRl ⟨x3, x4⟩ ⟨emp, emp⟩ = eb from HEB.out] at HNe
    cases eb with
    | false =>
      simp only [Bool.not_false] at HNe
      go_wp2_with fail
      refine wp_region_held_drew (S := (fun W => ∀ o, W.cell? ⟨w.heap.size, o, none⟩ = (#[.int .i64 1, .string x1, .string x2, .string x3, .string x4, .slice wo us.length wc] : Array Value)[o]?)) (by kernel_rfl) HT.out.drew.a.1 (fun hHeld => ?_)
      have HT := HT.out.drew
      obtain ⟨wk, hwk⟩ : ∃ W, W = wr.drew := ⟨_, rfl⟩
      rw [← hwk] at HT hHeld ⊢
      clear hwk
      (refine hyes 0 ?_); (refine hyes 1 ?_); (refine hyes 3 ?_); (refine hyes 4 ?_); (refine hyes 5 ?_); (refine hyes 6 ?_); (try simp only [Act.put, List.setIfInBounds_toArray, List.set])
      (refine held_call 2 rfl (by kernel_rfl) (fun K hK => ?_); go_simp)
      go_at_call 123; refine (SE.out _).mono ?_; rintro e wz2 ⟨rfl, rfl⟩
      (refine hK.out _ _ ((HT.a.1)) (fun hHeld => ?_); clear hK K; (try simp only [Act.put, List.setIfInBounds_toArray, List.set]))
      (refine hyes 7 ?_); (refine hyes 8 ?_); (try simp only [Act.put, List.setIfInBounds_toArray, List.set])
      (refine hno 9 ?_); (try simp only [Act.put, List.setIfInBounds_toArray, List.set])
      (refine hno 10 ?_); (try simp only [Act.put, List.setIfInBounds_toArray, List.set])
      (refine hno 11 ?_); (try simp only [Act.put, List.setIfInBounds_toArray, List.set])
      (refine hno 12 ?_); (try simp only [Act.put, List.setIfInBounds_toArray, List.set])
      (refine hno 13 ?_); (try simp only [Act.put, List.setIfInBounds_toArray, List.set])
      (refine hno 14 ?_); (try simp only [Act.put, List.setIfInBounds_toArray, List.set])
      (refine hno 15 ?_); (try simp only [Act.put, List.setIfInBounds_toArray, List.set])
      (refine hno 16 ?_); (try simp only [Act.put, List.setIfInBounds_toArray, List.set])
      (refine hno 17 ?_); (try simp only [Act.put, List.setIfInBounds_toArray, List.set])
      (refine hyes 18 ?_); (try simp only [Act.put, List.setIfInBounds_toArray, List.set])
      refine wpAnyH_done (by kernel_rfl) ?_ _
      have HTr := Lib.hid HT
      clear HT
      go_wp2_with fail
      go_ret
      exact ⟨ret_b (by rw [RS.out]; first | rfl | (simp [noR_role]) | (cases rb <;> simp_all)), HTr.out.low⟩
    | true =>
      simp only [Bool.not_true] at HNe
      go_wp2_with fail
      refine wp_region_held_drew (S := (fun W => ∀ o, W.cell? ⟨w.heap.size, o, none⟩ = (#[.int .i64 1, .string x1, .string x2, .string x3, .string x4, .slice wo us.length wc] : Array Value)[o]?)) (by kernel_rfl) HT.out.drew.a.1 (fun hHeld => ?_)
      have HT := HT.out.drew
      obtain ⟨wk, hwk⟩ : ∃ W, W = wr.drew := ⟨_, rfl⟩
      rw [← hwk] at HT hHeld ⊢
      clear hwk
      (refine hyes 0 ?_); (refine hyes 1 ?_); (refine hyes 3 ?_); (refine hyes 4 ?_); (refine hyes 5 ?_); (refine hyes 6 ?_); (try simp only [Act.put, List.setIfInBounds_toArray, List.set])
      (refine held_call 2 rfl (by kernel_rfl) (fun K hK => ?_); go_simp)
      go_at_call 123; refine (SE.out _).mono ?_; rintro e wz2 ⟨rfl, rfl⟩
      (refine hK.out _ _ ((HT.a.1)) (fun hHeld => ?_); clear hK K; (try simp only [Act.put, List.setIfInBounds_toArray, List.set]))
      (refine hyes 7 ?_); (refine hyes 8 ?_); (refine hyes 9 ?_); (refine hyes 10 ?_); (try simp only [Act.put, List.setIfInBounds_toArray, List.set])
      (refine held_call 11 rfl (by kernel_rfl) (fun K hK => ?_); go_simp)
      go_at_call 123; refine (SE.out _).mono ?_; rintro e wz11 ⟨rfl, rfl⟩
      (refine hK.out _ _ ((HT.a.1)) (fun hHeld => ?_); clear hK K; (try simp only [Act.put, List.setIfInBounds_toArray, List.set]))
      (refine hyes 12 ?_); (try simp only [Act.put, List.setIfInBounds_toArray, List.set])
      (refine hno 13 ?_); (try simp only [Act.put, List.setIfInBounds_toArray, List.set])
      (refine hno 14 ?_); (try simp only [Act.put, List.setIfInBounds_toArray, List.set])
      (refine hno 15 ?_); (try simp only [Act.put, List.setIfInBounds_toArray, List.set])
      (refine hno 16 ?_); (try simp only [Act.put, List.setIfInBounds_toArray, List.set])
      (refine hyes 17 ?_); (refine hyes 18 ?_); (try simp only [Act.put, List.setIfInBounds_toArray, List.set])
      refine wpAnyH_done (by kernel_rfl) ?_ _
      have HTr := Lib.hid HT
      clear HT
      obtain ⟨ca, fa, za⟩ := HTr.out.a
      go_wp2_with fail
      refine (LE.out _).mono ?_
      rintro e wl ⟨rfl, rfl⟩
      by_cases h0 : us.length = 0
      · have e0 : ((us.length : Int) == 0) = true := by rw [beq_iff_eq]; omega
        have e3 : decide ((us.length : Int) ≤ 12) = true := decide_eq_true (by omega)
        have e4 : decide ((1 : Int) ≤ (us.length : Int)) = false := decide_eq_false (by omega)
        have e5 : decide ((0 : Int) ≤ (us.length : Int)) = true := decide_eq_true (by omega)
        rw [h0] at RS
        go_wp2_with fail
        go_ret
        exact ⟨ret_b (by rw [RS.out]; rfl), HTr.out.low⟩
      · by_cases h12 : us.length ≤ 12
        · have e0 : ((us.length : Int) == 0) = false := by rw [beq_eq_false_iff_ne]; omega
          have e3 : decide ((us.length : Int) ≤ 12) = true := decide_eq_true (by omega)
          have e4 : decide ((1 : Int) ≤ (us.length : Int)) = true := decide_eq_true (by omega)
          have e5 : decide ((0 : Int) ≤ (us.length : Int)) = true := decide_eq_true (by omega)
          (try rw [decide_eq_false h0] at RS); (try rw [decide_eq_true h12] at RS); (try rw [decide_eq_true (show 0 < us.length by omega)] at RS)
          go_wp2_with fail
          go_ret
          exact ⟨ret_b (by rw [RS.out]; rfl), HTr.out.low⟩
        · have e0 : ((us.length : Int) == 0) = false := by rw [beq_eq_false_iff_ne]; omega
          have e3 : decide ((us.length : Int) ≤ 12) = false := decide_eq_false (by omega)
          have e4 : decide ((1 : Int) ≤ (us.length : Int)) = true := decide_eq_true (by omega)
          have e5 : decide ((0 : Int) ≤ (us.length : Int)) = true := decide_eq_true (by omega)
          (try rw [decide_eq_false h0] at RS); (try rw [decide_eq_false h12] at RS); (try rw [decide_eq_true (show 0 < us.length by omega)] at RS)
          go_wp2_with fail
          go_ret
          exact ⟨ret_b (by rw [RS.out]; rfl), HTr.out.low⟩
  · have RS : Hid (res = (eqRl ⟨x3, x4⟩ noR && (decide (us.length ≤ 12) && decide (0 < us.length)))) := Lib.hid (RES.out.trans (by rfl))
    clear RES
    rw [show eqRl ⟨x3, x4⟩ noR = eb from HEB.out] at RS
    have SE := Lib.hid (fun W => query_secondB 2 W)
    have SB := Lib.hid (show secB 2 = false from rfl)
    rw [SB.out] at SE
    have LE := Lib.hid (fun W => query_least 2 W)
    rw [show leastI 2 = 1 from rfl] at LE
    have HNe := fun W => role_neq x3 x4 emp emp W
    rw [show eqRl ⟨x3, x4⟩ ⟨emp, emp⟩ = eb from HEB.out] at HNe
    cases eb with
    | false =>
      simp only [Bool.not_false] at HNe
      go_wp2_with fail
      refine wp_region_held_drew (S := (fun W => ∀ o, W.cell? ⟨w.heap.size, o, none⟩ = (#[.int .i64 2, .string x1, .string x2, .string x3, .string x4, .slice wo us.length wc] : Array Value)[o]?)) (by kernel_rfl) HT.out.drew.a.1 (fun hHeld => ?_)
      have HT := HT.out.drew
      obtain ⟨wk, hwk⟩ : ∃ W, W = wr.drew := ⟨_, rfl⟩
      rw [← hwk] at HT hHeld ⊢
      clear hwk
      (refine hyes 0 ?_); (refine hyes 1 ?_); (refine hyes 3 ?_); (refine hyes 4 ?_); (refine hyes 5 ?_); (refine hyes 6 ?_); (try simp only [Act.put, List.setIfInBounds_toArray, List.set])
      (refine held_call 2 rfl (by kernel_rfl) (fun K hK => ?_); go_simp)
      go_at_call 123; refine (SE.out _).mono ?_; rintro e wz2 ⟨rfl, rfl⟩
      (refine hK.out _ _ ((HT.a.1)) (fun hHeld => ?_); clear hK K; (try simp only [Act.put, List.setIfInBounds_toArray, List.set]))
      (refine hyes 7 ?_); (refine hyes 8 ?_); (try simp only [Act.put, List.setIfInBounds_toArray, List.set])
      (refine hno 9 ?_); (try simp only [Act.put, List.setIfInBounds_toArray, List.set])
      (refine hno 10 ?_); (try simp only [Act.put, List.setIfInBounds_toArray, List.set])
      (refine hno 11 ?_); (try simp only [Act.put, List.setIfInBounds_toArray, List.set])
      (refine hno 12 ?_); (try simp only [Act.put, List.setIfInBounds_toArray, List.set])
      (refine hno 13 ?_); (try simp only [Act.put, List.setIfInBounds_toArray, List.set])
      (refine hno 14 ?_); (try simp only [Act.put, List.setIfInBounds_toArray, List.set])
      (refine hno 15 ?_); (try simp only [Act.put, List.setIfInBounds_toArray, List.set])
      (refine hno 16 ?_); (try simp only [Act.put, List.setIfInBounds_toArray, List.set])
      (refine hno 17 ?_); (try simp only [Act.put, List.setIfInBounds_toArray, List.set])
      (refine hyes 18 ?_); (try simp only [Act.put, List.setIfInBounds_toArray, List.set])
      refine wpAnyH_done (by kernel_rfl) ?_ _
      have HTr := Lib.hid HT
      clear HT
      go_wp2_with fail
      go_ret
      exact ⟨ret_b (by rw [RS.out]; first | rfl | (simp [noR_role]) | (cases rb <;> simp_all)), HTr.out.low⟩
    | true =>
      simp only [Bool.not_true] at HNe
      go_wp2_with fail
      refine wp_region_held_drew (S := (fun W => ∀ o, W.cell? ⟨w.heap.size, o, none⟩ = (#[.int .i64 2, .string x1, .string x2, .string x3, .string x4, .slice wo us.length wc] : Array Value)[o]?)) (by kernel_rfl) HT.out.drew.a.1 (fun hHeld => ?_)
      have HT := HT.out.drew
      obtain ⟨wk, hwk⟩ : ∃ W, W = wr.drew := ⟨_, rfl⟩
      rw [← hwk] at HT hHeld ⊢
      clear hwk
      (refine hyes 0 ?_); (refine hyes 1 ?_); (refine hyes 3 ?_); (refine hyes 4 ?_); (refine hyes 5 ?_); (refine hyes 6 ?_); (try simp only [Act.put, List.setIfInBounds_toArray, List.set])
      (refine held_call 2 rfl (by kernel_rfl) (fun K hK => ?_); go_simp)
      go_at_call 123; refine (SE.out _).mono ?_; rintro e wz2 ⟨rfl, rfl⟩
      (refine hK.out _ _ ((HT.a.1)) (fun hHeld => ?_); clear hK K; (try simp only [Act.put, List.setIfInBounds_toArray, List.set]))
      (refine hyes 7 ?_); (refine hyes 8 ?_); (refine hyes 9 ?_); (refine hyes 10 ?_); (try simp only [Act.put, List.setIfInBounds_toArray, List.set])
      (refine held_call 11 rfl (by kernel_rfl) (fun K hK => ?_); go_simp)
      go_at_call 123; refine (SE.out _).mono ?_; rintro e wz11 ⟨rfl, rfl⟩
      (refine hK.out _ _ ((HT.a.1)) (fun hHeld => ?_); clear hK K; (try simp only [Act.put, List.setIfInBounds_toArray, List.set]))
      (refine hyes 12 ?_); (try simp only [Act.put, List.setIfInBounds_toArray, List.set])
      (refine hno 13 ?_); (try simp only [Act.put, List.setIfInBounds_toArray, List.set])
      (refine hno 14 ?_); (try simp only [Act.put, List.setIfInBounds_toArray, List.set])
      (refine hno 15 ?_); (try simp only [Act.put, List.setIfInBounds_toArray, List.set])
      (refine hno 16 ?_); (try simp only [Act.put, List.setIfInBounds_toArray, List.set])
      (refine hyes 17 ?_); (refine hyes 18 ?_); (try simp only [Act.put, List.setIfInBounds_toArray, List.set])
      refine wpAnyH_done (by kernel_rfl) ?_ _
      have HTr := Lib.hid HT
      clear HT
      obtain ⟨ca, fa, za⟩ := HTr.out.a
      go_wp2_with fail
      refine (LE.out _).mono ?_
      rintro e wl ⟨rfl, rfl⟩
      by_cases h0 : us.length = 0
      · have e0 : ((us.length : Int) == 0) = true := by rw [beq_iff_eq]; omega
        have e3 : decide ((us.length : Int) ≤ 12) = true := decide_eq_true (by omega)
        have e4 : decide ((1 : Int) ≤ (us.length : Int)) = false := decide_eq_false (by omega)
        have e5 : decide ((0 : Int) ≤ (us.length : Int)) = true := decide_eq_true (by omega)
        rw [h0] at RS
        go_wp2_with fail
        go_ret
        exact ⟨ret_b (by rw [RS.out]; rfl), HTr.out.low⟩
      · by_cases h12 : us.length ≤ 12
        · have e0 : ((us.length : Int) == 0) = false := by rw [beq_eq_false_iff_ne]; omega
          have e3 : decide ((us.length : Int) ≤ 12) = true := decide_eq_true (by omega)
          have e4 : decide ((1 : Int) ≤ (us.length : Int)) = true := decide_eq_true (by omega)
          have e5 : decide ((0 : Int) ≤ (us.length : Int)) = true := decide_eq_true (by omega)
          (try rw [decide_eq_false h0] at RS); (try rw [decide_eq_true h12] at RS); (try rw [decide_eq_true (show 0 < us.length by omega)] at RS)
          go_wp2_with fail
          go_ret
          exact ⟨ret_b (by rw [RS.out]; rfl), HTr.out.low⟩
        · have e0 : ((us.length : Int) == 0) = false := by rw [beq_eq_false_iff_ne]; omega
          have e3 : decide ((us.length : Int) ≤ 12) = false := decide_eq_false (by omega)
          have e4 : decide ((1 : Int) ≤ (us.length : Int)) = true := decide_eq_true (by omega)
          have e5 : decide ((0 : Int) ≤ (us.length : Int)) = true := decide_eq_true (by omega)
          (try rw [decide_eq_false h0] at RS); (try rw [decide_eq_false h12] at RS); (try rw [decide_eq_true (show 0 < us.length by omega)] at RS)
          go_wp2_with fail
          go_ret
          exact ⟨ret_b (by rw [RS.out]; rfl), HTr.out.low⟩
  · have RS : Hid (res = (eqRl ⟨x3, x4⟩ noR && (decide (us.length ≤ 12) && true))) := Lib.hid (RES.out.trans (by rfl))
    clear RES
    rw [show eqRl ⟨x3, x4⟩ noR = eb from HEB.out] at RS
    have SE := Lib.hid (fun W => query_secondB 3 W)
    have SB := Lib.hid (show secB 3 = false from rfl)
    rw [SB.out] at SE
    have LE := Lib.hid (fun W => query_least 3 W)
    rw [show leastI 3 = 0 from rfl] at LE
    have HNe := fun W => role_neq x3 x4 emp emp W
    rw [show eqRl ⟨x3, x4⟩ ⟨emp, emp⟩ = eb from HEB.out] at HNe
    cases eb with
    | false =>
      simp only [Bool.not_false] at HNe
      go_wp2_with fail
      refine wp_region_held_drew (S := (fun W => ∀ o, W.cell? ⟨w.heap.size, o, none⟩ = (#[.int .i64 3, .string x1, .string x2, .string x3, .string x4, .slice wo us.length wc] : Array Value)[o]?)) (by kernel_rfl) HT.out.drew.a.1 (fun hHeld => ?_)
      have HT := HT.out.drew
      obtain ⟨wk, hwk⟩ : ∃ W, W = wr.drew := ⟨_, rfl⟩
      rw [← hwk] at HT hHeld ⊢
      clear hwk
      (refine hyes 0 ?_); (refine hyes 1 ?_); (refine hyes 3 ?_); (refine hyes 4 ?_); (refine hyes 5 ?_); (refine hyes 6 ?_); (try simp only [Act.put, List.setIfInBounds_toArray, List.set])
      (refine held_call 2 rfl (by kernel_rfl) (fun K hK => ?_); go_simp)
      go_at_call 123; refine (SE.out _).mono ?_; rintro e wz2 ⟨rfl, rfl⟩
      (refine hK.out _ _ ((HT.a.1)) (fun hHeld => ?_); clear hK K; (try simp only [Act.put, List.setIfInBounds_toArray, List.set]))
      (refine hyes 7 ?_); (refine hyes 8 ?_); (try simp only [Act.put, List.setIfInBounds_toArray, List.set])
      (refine hno 9 ?_); (try simp only [Act.put, List.setIfInBounds_toArray, List.set])
      (refine hno 10 ?_); (try simp only [Act.put, List.setIfInBounds_toArray, List.set])
      (refine hno 11 ?_); (try simp only [Act.put, List.setIfInBounds_toArray, List.set])
      (refine hno 12 ?_); (try simp only [Act.put, List.setIfInBounds_toArray, List.set])
      (refine hno 13 ?_); (try simp only [Act.put, List.setIfInBounds_toArray, List.set])
      (refine hno 14 ?_); (try simp only [Act.put, List.setIfInBounds_toArray, List.set])
      (refine hno 15 ?_); (try simp only [Act.put, List.setIfInBounds_toArray, List.set])
      (refine hno 16 ?_); (try simp only [Act.put, List.setIfInBounds_toArray, List.set])
      (refine hno 17 ?_); (try simp only [Act.put, List.setIfInBounds_toArray, List.set])
      (refine hyes 18 ?_); (try simp only [Act.put, List.setIfInBounds_toArray, List.set])
      refine wpAnyH_done (by kernel_rfl) ?_ _
      have HTr := Lib.hid HT
      clear HT
      go_wp2_with fail
      go_ret
      exact ⟨ret_b (by rw [RS.out]; first | rfl | (simp [noR_role]) | (cases rb <;> simp_all)), HTr.out.low⟩
    | true =>
      simp only [Bool.not_true] at HNe
      go_wp2_with fail
      refine wp_region_held_drew (S := (fun W => ∀ o, W.cell? ⟨w.heap.size, o, none⟩ = (#[.int .i64 3, .string x1, .string x2, .string x3, .string x4, .slice wo us.length wc] : Array Value)[o]?)) (by kernel_rfl) HT.out.drew.a.1 (fun hHeld => ?_)
      have HT := HT.out.drew
      obtain ⟨wk, hwk⟩ : ∃ W, W = wr.drew := ⟨_, rfl⟩
      rw [← hwk] at HT hHeld ⊢
      clear hwk
      (refine hyes 0 ?_); (refine hyes 1 ?_); (refine hyes 3 ?_); (refine hyes 4 ?_); (refine hyes 5 ?_); (refine hyes 6 ?_); (try simp only [Act.put, List.setIfInBounds_toArray, List.set])
      (refine held_call 2 rfl (by kernel_rfl) (fun K hK => ?_); go_simp)
      go_at_call 123; refine (SE.out _).mono ?_; rintro e wz2 ⟨rfl, rfl⟩
      (refine hK.out _ _ ((HT.a.1)) (fun hHeld => ?_); clear hK K; (try simp only [Act.put, List.setIfInBounds_toArray, List.set]))
      (refine hyes 7 ?_); (refine hyes 8 ?_); (refine hyes 9 ?_); (refine hyes 10 ?_); (try simp only [Act.put, List.setIfInBounds_toArray, List.set])
      (refine held_call 11 rfl (by kernel_rfl) (fun K hK => ?_); go_simp)
      go_at_call 123; refine (SE.out _).mono ?_; rintro e wz11 ⟨rfl, rfl⟩
      (refine hK.out _ _ ((HT.a.1)) (fun hHeld => ?_); clear hK K; (try simp only [Act.put, List.setIfInBounds_toArray, List.set]))
      (refine hyes 12 ?_); (try simp only [Act.put, List.setIfInBounds_toArray, List.set])
      (refine hno 13 ?_); (try simp only [Act.put, List.setIfInBounds_toArray, List.set])
      (refine hno 14 ?_); (try simp only [Act.put, List.setIfInBounds_toArray, List.set])
      (refine hno 15 ?_); (try simp only [Act.put, List.setIfInBounds_toArray, List.set])
      (refine hno 16 ?_); (try simp only [Act.put, List.setIfInBounds_toArray, List.set])
      (refine hyes 17 ?_); (refine hyes 18 ?_); (try simp only [Act.put, List.setIfInBounds_toArray, List.set])
      refine wpAnyH_done (by kernel_rfl) ?_ _
      have HTr := Lib.hid HT
      clear HT
      obtain ⟨ca, fa, za⟩ := HTr.out.a
      go_wp2_with fail
      refine (LE.out _).mono ?_
      rintro e wl ⟨rfl, rfl⟩
      by_cases h0 : us.length = 0
      · have e0 : ((us.length : Int) == 0) = true := by rw [beq_iff_eq]; omega
        have e3 : decide ((us.length : Int) ≤ 12) = true := decide_eq_true (by omega)
        have e4 : decide ((1 : Int) ≤ (us.length : Int)) = false := decide_eq_false (by omega)
        have e5 : decide ((0 : Int) ≤ (us.length : Int)) = true := decide_eq_true (by omega)
        rw [h0] at RS
        go_wp2_with fail
        go_ret
        exact ⟨ret_b (by rw [RS.out]; rfl), HTr.out.low⟩
      · by_cases h12 : us.length ≤ 12
        · have e0 : ((us.length : Int) == 0) = false := by rw [beq_eq_false_iff_ne]; omega
          have e3 : decide ((us.length : Int) ≤ 12) = true := decide_eq_true (by omega)
          have e4 : decide ((1 : Int) ≤ (us.length : Int)) = true := decide_eq_true (by omega)
          have e5 : decide ((0 : Int) ≤ (us.length : Int)) = true := decide_eq_true (by omega)
          (try rw [decide_eq_false h0] at RS); (try rw [decide_eq_true h12] at RS); (try rw [decide_eq_true (show 0 < us.length by omega)] at RS)
          go_wp2_with fail
          go_ret
          exact ⟨ret_b (by rw [RS.out]; rfl), HTr.out.low⟩
        · have e0 : ((us.length : Int) == 0) = false := by rw [beq_eq_false_iff_ne]; omega
          have e3 : decide ((us.length : Int) ≤ 12) = false := decide_eq_false (by omega)
          have e4 : decide ((1 : Int) ≤ (us.length : Int)) = true := decide_eq_true (by omega)
          have e5 : decide ((0 : Int) ≤ (us.length : Int)) = true := decide_eq_true (by omega)
          (try rw [decide_eq_false h0] at RS); (try rw [decide_eq_false h12] at RS); (try rw [decide_eq_true (show 0 < us.length by omega)] at RS)
          go_wp2_with fail
          go_ret
          exact ⟨ret_b (by rw [RS.out]; rfl), HTr.out.low⟩
  · have RS : Hid (res = (eqRl ⟨x3, x4⟩ noR && (decide (us.length ≤ 12) && decide (us.length = 0)))) := Lib.hid (RES.out.trans (by rfl))
    clear RES
    rw [show eqRl ⟨x3, x4⟩ noR = eb from HEB.out] at RS
    have SE := Lib.hid (fun W => query_secondB 4 W)
    have SB := Lib.hid (show secB 4 = false from rfl)
    rw [SB.out] at SE
    have LE := Lib.hid (fun W => query_least 4 W)
    rw [show leastI 4 = -1 from rfl] at LE
    have HNe := fun W => role_neq x3 x4 emp emp W
    rw [show eqRl ⟨x3, x4⟩ ⟨emp, emp⟩ = eb from HEB.out] at HNe
    cases eb with
    | false =>
      simp only [Bool.not_false] at HNe
      go_wp2_with fail
      refine wp_region_held_drew (S := (fun W => ∀ o, W.cell? ⟨w.heap.size, o, none⟩ = (#[.int .i64 4, .string x1, .string x2, .string x3, .string x4, .slice wo us.length wc] : Array Value)[o]?)) (by kernel_rfl) HT.out.drew.a.1 (fun hHeld => ?_)
      have HT := HT.out.drew
      obtain ⟨wk, hwk⟩ : ∃ W, W = wr.drew := ⟨_, rfl⟩
      rw [← hwk] at HT hHeld ⊢
      clear hwk
      (refine hyes 0 ?_); (refine hyes 1 ?_); (refine hyes 3 ?_); (refine hyes 4 ?_); (refine hyes 5 ?_); (refine hyes 6 ?_); (try simp only [Act.put, List.setIfInBounds_toArray, List.set])
      (refine held_call 2 rfl (by kernel_rfl) (fun K hK => ?_); go_simp)
      go_at_call 123; refine (SE.out _).mono ?_; rintro e wz2 ⟨rfl, rfl⟩
      (refine hK.out _ _ ((HT.a.1)) (fun hHeld => ?_); clear hK K; (try simp only [Act.put, List.setIfInBounds_toArray, List.set]))
      (refine hyes 7 ?_); (refine hyes 8 ?_); (try simp only [Act.put, List.setIfInBounds_toArray, List.set])
      (refine hno 9 ?_); (try simp only [Act.put, List.setIfInBounds_toArray, List.set])
      (refine hno 10 ?_); (try simp only [Act.put, List.setIfInBounds_toArray, List.set])
      (refine hno 11 ?_); (try simp only [Act.put, List.setIfInBounds_toArray, List.set])
      (refine hno 12 ?_); (try simp only [Act.put, List.setIfInBounds_toArray, List.set])
      (refine hno 13 ?_); (try simp only [Act.put, List.setIfInBounds_toArray, List.set])
      (refine hno 14 ?_); (try simp only [Act.put, List.setIfInBounds_toArray, List.set])
      (refine hno 15 ?_); (try simp only [Act.put, List.setIfInBounds_toArray, List.set])
      (refine hno 16 ?_); (try simp only [Act.put, List.setIfInBounds_toArray, List.set])
      (refine hno 17 ?_); (try simp only [Act.put, List.setIfInBounds_toArray, List.set])
      (refine hyes 18 ?_); (try simp only [Act.put, List.setIfInBounds_toArray, List.set])
      refine wpAnyH_done (by kernel_rfl) ?_ _
      have HTr := Lib.hid HT
      clear HT
      go_wp2_with fail
      go_ret
      exact ⟨ret_b (by rw [RS.out]; first | rfl | (simp [noR_role]) | (cases rb <;> simp_all)), HTr.out.low⟩
    | true =>
      simp only [Bool.not_true] at HNe
      go_wp2_with fail
      refine wp_region_held_drew (S := (fun W => ∀ o, W.cell? ⟨w.heap.size, o, none⟩ = (#[.int .i64 4, .string x1, .string x2, .string x3, .string x4, .slice wo us.length wc] : Array Value)[o]?)) (by kernel_rfl) HT.out.drew.a.1 (fun hHeld => ?_)
      have HT := HT.out.drew
      obtain ⟨wk, hwk⟩ : ∃ W, W = wr.drew := ⟨_, rfl⟩
      rw [← hwk] at HT hHeld ⊢
      clear hwk
      (refine hyes 0 ?_); (refine hyes 1 ?_); (refine hyes 3 ?_); (refine hyes 4 ?_); (refine hyes 5 ?_); (refine hyes 6 ?_); (try simp only [Act.put, List.setIfInBounds_toArray, List.set])
      (refine held_call 2 rfl (by kernel_rfl) (fun K hK => ?_); go_simp)
      go_at_call 123; refine (SE.out _).mono ?_; rintro e wz2 ⟨rfl, rfl⟩
      (refine hK.out _ _ ((HT.a.1)) (fun hHeld => ?_); clear hK K; (try simp only [Act.put, List.setIfInBounds_toArray, List.set]))
      (refine hyes 7 ?_); (refine hyes 8 ?_); (refine hyes 9 ?_); (refine hyes 10 ?_); (try simp only [Act.put, List.setIfInBounds_toArray, List.set])
      (refine held_call 11 rfl (by kernel_rfl) (fun K hK => ?_); go_simp)
      go_at_call 123; refine (SE.out _).mono ?_; rintro e wz11 ⟨rfl, rfl⟩
      (refine hK.out _ _ ((HT.a.1)) (fun hHeld => ?_); clear hK K; (try simp only [Act.put, List.setIfInBounds_toArray, List.set]))
      (refine hyes 12 ?_); (try simp only [Act.put, List.setIfInBounds_toArray, List.set])
      (refine hno 13 ?_); (try simp only [Act.put, List.setIfInBounds_toArray, List.set])
      (refine hno 14 ?_); (try simp only [Act.put, List.setIfInBounds_toArray, List.set])
      (refine hno 15 ?_); (try simp only [Act.put, List.setIfInBounds_toArray, List.set])
      (refine hno 16 ?_); (try simp only [Act.put, List.setIfInBounds_toArray, List.set])
      (refine hyes 17 ?_); (refine hyes 18 ?_); (try simp only [Act.put, List.setIfInBounds_toArray, List.set])
      refine wpAnyH_done (by kernel_rfl) ?_ _
      have HTr := Lib.hid HT
      clear HT
      obtain ⟨ca, fa, za⟩ := HTr.out.a
      go_wp2_with fail
      refine (LE.out _).mono ?_
      rintro e wl ⟨rfl, rfl⟩
      by_cases h0 : us.length = 0
      · have e0 : ((us.length : Int) == 0) = true := by rw [beq_iff_eq]; omega
        have e3 : decide ((us.length : Int) ≤ 12) = true := decide_eq_true (by omega)
        have e4 : decide ((1 : Int) ≤ (us.length : Int)) = false := decide_eq_false (by omega)
        have e5 : decide ((0 : Int) ≤ (us.length : Int)) = true := decide_eq_true (by omega)
        rw [h0] at RS
        go_wp2_with fail
        go_ret
        exact ⟨ret_b (by rw [RS.out]; rfl), HTr.out.low⟩
      · by_cases h12 : us.length ≤ 12
        · have e0 : ((us.length : Int) == 0) = false := by rw [beq_eq_false_iff_ne]; omega
          have e3 : decide ((us.length : Int) ≤ 12) = true := decide_eq_true (by omega)
          have e4 : decide ((1 : Int) ≤ (us.length : Int)) = true := decide_eq_true (by omega)
          have e5 : decide ((0 : Int) ≤ (us.length : Int)) = true := decide_eq_true (by omega)
          (try rw [decide_eq_false h0] at RS); (try rw [decide_eq_true h12] at RS); (try rw [decide_eq_true (show 0 < us.length by omega)] at RS)
          go_wp2_with fail
          go_ret
          exact ⟨ret_b (by rw [RS.out]; rfl), HTr.out.low⟩
        · have e0 : ((us.length : Int) == 0) = false := by rw [beq_eq_false_iff_ne]; omega
          have e3 : decide ((us.length : Int) ≤ 12) = false := decide_eq_false (by omega)
          have e4 : decide ((1 : Int) ≤ (us.length : Int)) = true := decide_eq_true (by omega)
          have e5 : decide ((0 : Int) ≤ (us.length : Int)) = true := decide_eq_true (by omega)
          (try rw [decide_eq_false h0] at RS); (try rw [decide_eq_false h12] at RS); (try rw [decide_eq_true (show 0 < us.length by omega)] at RS)
          go_wp2_with fail
          go_ret
          exact ⟨ret_b (by rw [RS.out]; rfl), HTr.out.low⟩
  · have RS : Hid (res = (isRole ⟨x3, x4⟩ && decide (us.length = 0))) := Lib.hid (RES.out.trans (by rfl))
    clear RES
    generalize isRole ⟨x3, x4⟩ = rb at IB RS RBN
    have SE := Lib.hid (fun W => query_secondB 5 W)
    have SB := Lib.hid (show secB 5 = true from rfl)
    rw [SB.out] at SE
    have LE := Lib.hid (fun W => query_least 5 W)
    rw [show leastI 5 = -1 from rfl] at LE
    have HNe := fun W => role_neq x3 x4 emp emp W
    rw [show eqRl ⟨x3, x4⟩ ⟨emp, emp⟩ = eb from HEB.out] at HNe
    cases eb with
    | false =>
      simp only [Bool.not_false] at HNe
      cases rb with
      | false =>
        go_wp2_with fail
        refine wp_region_held_drew (S := (fun W => ∀ o, W.cell? ⟨w.heap.size, o, none⟩ = (#[.int .i64 5, .string x1, .string x2, .string x3, .string x4, .slice wo us.length wc] : Array Value)[o]?)) (by kernel_rfl) HT.out.drew.a.1 (fun hHeld => ?_)
        have HT := HT.out.drew
        obtain ⟨wk, hwk⟩ : ∃ W, W = wr.drew := ⟨_, rfl⟩
        rw [← hwk] at HT hHeld ⊢
        clear hwk
        (refine hyes 0 ?_); (refine hyes 1 ?_); (refine hyes 3 ?_); (refine hyes 4 ?_); (refine hyes 5 ?_); (refine hyes 6 ?_); (try simp only [Act.put, List.setIfInBounds_toArray, List.set])
        (refine held_call 2 rfl (by kernel_rfl) (fun K hK => ?_); go_simp)
        go_at_call 123; refine (SE.out _).mono ?_; rintro e wz2 ⟨rfl, rfl⟩
        (refine hK.out _ _ ((HT.a.1)) (fun hHeld => ?_); clear hK K; (try simp only [Act.put, List.setIfInBounds_toArray, List.set]))
        (refine hyes 7 ?_); (refine hyes 8 ?_); (refine hyes 9 ?_); (refine hyes 10 ?_); (try simp only [Act.put, List.setIfInBounds_toArray, List.set])
        (refine held_call 11 rfl (by kernel_rfl) (fun K hK => ?_); go_simp)
        go_at_call 123; refine (SE.out _).mono ?_; rintro e wz11 ⟨rfl, rfl⟩
        (refine hK.out _ _ ((HT.a.1)) (fun hHeld => ?_); clear hK K; (try simp only [Act.put, List.setIfInBounds_toArray, List.set]))
        (refine hyes 12 ?_); (refine hyes 13 ?_); (refine hyes 14 ?_); (try simp only [Act.put, List.setIfInBounds_toArray, List.set])
        (refine held_call 15 rfl (by kernel_rfl) (fun K hK => ?_); go_simp)
        go_at_call 102; refine (IB.out _).mono ?_; rintro e wz15 ⟨rfl, hbq⟩
        have HT := HT.later hbq
        clear hbq
        (refine hK.out _ _ ((HT.a.1)) (fun hHeld => ?_); clear hK K; (try simp only [Act.put, List.setIfInBounds_toArray, List.set]))
        (refine hyes 16 ?_); (refine hyes 17 ?_); (refine hyes 18 ?_); (try simp only [Act.put, List.setIfInBounds_toArray, List.set])
        refine wpAnyH_done (by kernel_rfl) ?_ _
        have HTr := Lib.hid HT
        clear HT
        go_wp2_with fail
        go_ret
        exact ⟨ret_b (by rw [RS.out]; rfl), HTr.out.low⟩
      | true =>
        go_wp2_with fail
        refine wp_region_held_drew (S := (fun W => ∀ o, W.cell? ⟨w.heap.size, o, none⟩ = (#[.int .i64 5, .string x1, .string x2, .string x3, .string x4, .slice wo us.length wc] : Array Value)[o]?)) (by kernel_rfl) HT.out.drew.a.1 (fun hHeld => ?_)
        have HT := HT.out.drew
        obtain ⟨wk, hwk⟩ : ∃ W, W = wr.drew := ⟨_, rfl⟩
        rw [← hwk] at HT hHeld ⊢
        clear hwk
        (refine hyes 0 ?_); (refine hyes 1 ?_); (refine hyes 3 ?_); (refine hyes 4 ?_); (refine hyes 5 ?_); (refine hyes 6 ?_); (try simp only [Act.put, List.setIfInBounds_toArray, List.set])
        (refine held_call 2 rfl (by kernel_rfl) (fun K hK => ?_); go_simp)
        go_at_call 123; refine (SE.out _).mono ?_; rintro e wz2 ⟨rfl, rfl⟩
        (refine hK.out _ _ ((HT.a.1)) (fun hHeld => ?_); clear hK K; (try simp only [Act.put, List.setIfInBounds_toArray, List.set]))
        (refine hyes 7 ?_); (refine hyes 8 ?_); (refine hyes 9 ?_); (refine hyes 10 ?_); (try simp only [Act.put, List.setIfInBounds_toArray, List.set])
        (refine held_call 11 rfl (by kernel_rfl) (fun K hK => ?_); go_simp)
        go_at_call 123; refine (SE.out _).mono ?_; rintro e wz11 ⟨rfl, rfl⟩
        (refine hK.out _ _ ((HT.a.1)) (fun hHeld => ?_); clear hK K; (try simp only [Act.put, List.setIfInBounds_toArray, List.set]))
        (refine hyes 12 ?_); (refine hyes 13 ?_); (refine hyes 14 ?_); (try simp only [Act.put, List.setIfInBounds_toArray, List.set])
        (refine held_call 15 rfl (by kernel_rfl) (fun K hK => ?_); go_simp)
        go_at_call 102; refine (IB.out _).mono ?_; rintro e wz15 ⟨rfl, hbq⟩
        have HT := HT.later hbq
        clear hbq
        (refine hK.out _ _ ((HT.a.1)) (fun hHeld => ?_); clear hK K; (try simp only [Act.put, List.setIfInBounds_toArray, List.set]))
        (refine hyes 16 ?_); (refine hyes 17 ?_); (refine hyes 18 ?_); (try simp only [Act.put, List.setIfInBounds_toArray, List.set])
        refine wpAnyH_done (by kernel_rfl) ?_ _
        have HTr := Lib.hid HT
        clear HT
        obtain ⟨ca, fa, za⟩ := HTr.out.a
        go_wp2_with fail
        refine (LE.out _).mono ?_
        rintro e wl ⟨rfl, rfl⟩
        by_cases h0 : us.length = 0
        · have e0 : ((us.length : Int) == 0) = true := by rw [beq_iff_eq]; omega
          have e3 : decide ((us.length : Int) ≤ 12) = true := decide_eq_true (by omega)
          have e4 : decide ((1 : Int) ≤ (us.length : Int)) = false := decide_eq_false (by omega)
          have e5 : decide ((0 : Int) ≤ (us.length : Int)) = true := decide_eq_true (by omega)
          rw [h0] at RS
          go_wp2_with fail
          go_ret
          exact ⟨ret_b (by rw [RS.out]; rfl), HTr.out.low⟩
        · by_cases h12 : us.length ≤ 12
          · have e0 : ((us.length : Int) == 0) = false := by rw [beq_eq_false_iff_ne]; omega
            have e3 : decide ((us.length : Int) ≤ 12) = true := decide_eq_true (by omega)
            have e4 : decide ((1 : Int) ≤ (us.length : Int)) = true := decide_eq_true (by omega)
            have e5 : decide ((0 : Int) ≤ (us.length : Int)) = true := decide_eq_true (by omega)
            (try rw [decide_eq_false h0] at RS); (try rw [decide_eq_true h12] at RS); (try rw [decide_eq_true (show 0 < us.length by omega)] at RS)
            go_wp2_with fail
            go_ret
            exact ⟨ret_b (by rw [RS.out]; rfl), HTr.out.low⟩
          · have e0 : ((us.length : Int) == 0) = false := by rw [beq_eq_false_iff_ne]; omega
            have e3 : decide ((us.length : Int) ≤ 12) = false := decide_eq_false (by omega)
            have e4 : decide ((1 : Int) ≤ (us.length : Int)) = true := decide_eq_true (by omega)
            have e5 : decide ((0 : Int) ≤ (us.length : Int)) = true := decide_eq_true (by omega)
            (try rw [decide_eq_false h0] at RS); (try rw [decide_eq_false h12] at RS); (try rw [decide_eq_true (show 0 < us.length by omega)] at RS)
            go_wp2_with fail
            go_ret
            exact ⟨ret_b (by rw [RS.out]; rfl), HTr.out.low⟩
    | true =>
      simp only [Bool.not_true] at HNe
      go_wp2_with fail
      refine wp_region_held_drew (S := (fun W => ∀ o, W.cell? ⟨w.heap.size, o, none⟩ = (#[.int .i64 5, .string x1, .string x2, .string x3, .string x4, .slice wo us.length wc] : Array Value)[o]?)) (by kernel_rfl) HT.out.drew.a.1 (fun hHeld => ?_)
      have HT := HT.out.drew
      obtain ⟨wk, hwk⟩ : ∃ W, W = wr.drew := ⟨_, rfl⟩
      rw [← hwk] at HT hHeld ⊢
      clear hwk
      (refine hyes 0 ?_); (refine hyes 1 ?_); (refine hyes 3 ?_); (refine hyes 4 ?_); (refine hyes 5 ?_); (refine hyes 6 ?_); (try simp only [Act.put, List.setIfInBounds_toArray, List.set])
      (refine held_call 2 rfl (by kernel_rfl) (fun K hK => ?_); go_simp)
      go_at_call 123; refine (SE.out _).mono ?_; rintro e wz2 ⟨rfl, rfl⟩
      (refine hK.out _ _ ((HT.a.1)) (fun hHeld => ?_); clear hK K; (try simp only [Act.put, List.setIfInBounds_toArray, List.set]))
      (refine hyes 7 ?_); (refine hyes 8 ?_); (try simp only [Act.put, List.setIfInBounds_toArray, List.set])
      (refine hno 9 ?_); (try simp only [Act.put, List.setIfInBounds_toArray, List.set])
      (refine hno 10 ?_); (try simp only [Act.put, List.setIfInBounds_toArray, List.set])
      (refine hno 11 ?_); (try simp only [Act.put, List.setIfInBounds_toArray, List.set])
      (refine hno 12 ?_); (try simp only [Act.put, List.setIfInBounds_toArray, List.set])
      (refine hno 13 ?_); (try simp only [Act.put, List.setIfInBounds_toArray, List.set])
      (refine hno 14 ?_); (try simp only [Act.put, List.setIfInBounds_toArray, List.set])
      (refine hno 15 ?_); (try simp only [Act.put, List.setIfInBounds_toArray, List.set])
      (refine hno 16 ?_); (try simp only [Act.put, List.setIfInBounds_toArray, List.set])
      (refine hno 17 ?_); (try simp only [Act.put, List.setIfInBounds_toArray, List.set])
      (refine hyes 18 ?_); (try simp only [Act.put, List.setIfInBounds_toArray, List.set])
      refine wpAnyH_done (by kernel_rfl) ?_ _
      have HTr := Lib.hid HT
      clear HT
      go_wp2_with fail
      go_ret
      exact ⟨ret_b (by rw [RS.out, RBN.out (by first | rfl | trivial)]; rfl), HTr.out.low⟩
  · have RS : Hid (res = (isRole ⟨x3, x4⟩ && decide (us.length = 0))) := Lib.hid (RES.out.trans (by rfl))
    clear RES
    generalize isRole ⟨x3, x4⟩ = rb at IB RS RBN
    have SE := Lib.hid (fun W => query_secondB 6 W)
    have SB := Lib.hid (show secB 6 = true from rfl)
    rw [SB.out] at SE
    have LE := Lib.hid (fun W => query_least 6 W)
    rw [show leastI 6 = -1 from rfl] at LE
    have HNe := fun W => role_neq x3 x4 emp emp W
    rw [show eqRl ⟨x3, x4⟩ ⟨emp, emp⟩ = eb from HEB.out] at HNe
    cases eb with
    | false =>
      simp only [Bool.not_false] at HNe
      cases rb with
      | false =>
        go_wp2_with fail
        refine wp_region_held_drew (S := (fun W => ∀ o, W.cell? ⟨w.heap.size, o, none⟩ = (#[.int .i64 6, .string x1, .string x2, .string x3, .string x4, .slice wo us.length wc] : Array Value)[o]?)) (by kernel_rfl) HT.out.drew.a.1 (fun hHeld => ?_)
        have HT := HT.out.drew
        obtain ⟨wk, hwk⟩ : ∃ W, W = wr.drew := ⟨_, rfl⟩
        rw [← hwk] at HT hHeld ⊢
        clear hwk
        (refine hyes 0 ?_); (refine hyes 1 ?_); (refine hyes 3 ?_); (refine hyes 4 ?_); (refine hyes 5 ?_); (refine hyes 6 ?_); (try simp only [Act.put, List.setIfInBounds_toArray, List.set])
        (refine held_call 2 rfl (by kernel_rfl) (fun K hK => ?_); go_simp)
        go_at_call 123; refine (SE.out _).mono ?_; rintro e wz2 ⟨rfl, rfl⟩
        (refine hK.out _ _ ((HT.a.1)) (fun hHeld => ?_); clear hK K; (try simp only [Act.put, List.setIfInBounds_toArray, List.set]))
        (refine hyes 7 ?_); (refine hyes 8 ?_); (refine hyes 9 ?_); (refine hyes 10 ?_); (try simp only [Act.put, List.setIfInBounds_toArray, List.set])
        (refine held_call 11 rfl (by kernel_rfl) (fun K hK => ?_); go_simp)
        go_at_call 123; refine (SE.out _).mono ?_; rintro e wz11 ⟨rfl, rfl⟩
        (refine hK.out _ _ ((HT.a.1)) (fun hHeld => ?_); clear hK K; (try simp only [Act.put, List.setIfInBounds_toArray, List.set]))
        (refine hyes 12 ?_); (refine hyes 13 ?_); (refine hyes 14 ?_); (try simp only [Act.put, List.setIfInBounds_toArray, List.set])
        (refine held_call 15 rfl (by kernel_rfl) (fun K hK => ?_); go_simp)
        go_at_call 102; refine (IB.out _).mono ?_; rintro e wz15 ⟨rfl, hbq⟩
        have HT := HT.later hbq
        clear hbq
        (refine hK.out _ _ ((HT.a.1)) (fun hHeld => ?_); clear hK K; (try simp only [Act.put, List.setIfInBounds_toArray, List.set]))
        (refine hyes 16 ?_); (refine hyes 17 ?_); (refine hyes 18 ?_); (try simp only [Act.put, List.setIfInBounds_toArray, List.set])
        refine wpAnyH_done (by kernel_rfl) ?_ _
        have HTr := Lib.hid HT
        clear HT
        go_wp2_with fail
        go_ret
        exact ⟨ret_b (by rw [RS.out]; rfl), HTr.out.low⟩
      | true =>
        go_wp2_with fail
        refine wp_region_held_drew (S := (fun W => ∀ o, W.cell? ⟨w.heap.size, o, none⟩ = (#[.int .i64 6, .string x1, .string x2, .string x3, .string x4, .slice wo us.length wc] : Array Value)[o]?)) (by kernel_rfl) HT.out.drew.a.1 (fun hHeld => ?_)
        have HT := HT.out.drew
        obtain ⟨wk, hwk⟩ : ∃ W, W = wr.drew := ⟨_, rfl⟩
        rw [← hwk] at HT hHeld ⊢
        clear hwk
        (refine hyes 0 ?_); (refine hyes 1 ?_); (refine hyes 3 ?_); (refine hyes 4 ?_); (refine hyes 5 ?_); (refine hyes 6 ?_); (try simp only [Act.put, List.setIfInBounds_toArray, List.set])
        (refine held_call 2 rfl (by kernel_rfl) (fun K hK => ?_); go_simp)
        go_at_call 123; refine (SE.out _).mono ?_; rintro e wz2 ⟨rfl, rfl⟩
        (refine hK.out _ _ ((HT.a.1)) (fun hHeld => ?_); clear hK K; (try simp only [Act.put, List.setIfInBounds_toArray, List.set]))
        (refine hyes 7 ?_); (refine hyes 8 ?_); (refine hyes 9 ?_); (refine hyes 10 ?_); (try simp only [Act.put, List.setIfInBounds_toArray, List.set])
        (refine held_call 11 rfl (by kernel_rfl) (fun K hK => ?_); go_simp)
        go_at_call 123; refine (SE.out _).mono ?_; rintro e wz11 ⟨rfl, rfl⟩
        (refine hK.out _ _ ((HT.a.1)) (fun hHeld => ?_); clear hK K; (try simp only [Act.put, List.setIfInBounds_toArray, List.set]))
        (refine hyes 12 ?_); (refine hyes 13 ?_); (refine hyes 14 ?_); (try simp only [Act.put, List.setIfInBounds_toArray, List.set])
        (refine held_call 15 rfl (by kernel_rfl) (fun K hK => ?_); go_simp)
        go_at_call 102; refine (IB.out _).mono ?_; rintro e wz15 ⟨rfl, hbq⟩
        have HT := HT.later hbq
        clear hbq
        (refine hK.out _ _ ((HT.a.1)) (fun hHeld => ?_); clear hK K; (try simp only [Act.put, List.setIfInBounds_toArray, List.set]))
        (refine hyes 16 ?_); (refine hyes 17 ?_); (refine hyes 18 ?_); (try simp only [Act.put, List.setIfInBounds_toArray, List.set])
        refine wpAnyH_done (by kernel_rfl) ?_ _
        have HTr := Lib.hid HT
        clear HT
        obtain ⟨ca, fa, za⟩ := HTr.out.a
        go_wp2_with fail
        refine (LE.out _).mono ?_
        rintro e wl ⟨rfl, rfl⟩
        by_cases h0 : us.length = 0
        · have e0 : ((us.length : Int) == 0) = true := by rw [beq_iff_eq]; omega
          have e3 : decide ((us.length : Int) ≤ 12) = true := decide_eq_true (by omega)
          have e4 : decide ((1 : Int) ≤ (us.length : Int)) = false := decide_eq_false (by omega)
          have e5 : decide ((0 : Int) ≤ (us.length : Int)) = true := decide_eq_true (by omega)
          rw [h0] at RS
          go_wp2_with fail
          go_ret
          exact ⟨ret_b (by rw [RS.out]; rfl), HTr.out.low⟩
        · by_cases h12 : us.length ≤ 12
          · have e0 : ((us.length : Int) == 0) = false := by rw [beq_eq_false_iff_ne]; omega
            have e3 : decide ((us.length : Int) ≤ 12) = true := decide_eq_true (by omega)
            have e4 : decide ((1 : Int) ≤ (us.length : Int)) = true := decide_eq_true (by omega)
            have e5 : decide ((0 : Int) ≤ (us.length : Int)) = true := decide_eq_true (by omega)
            (try rw [decide_eq_false h0] at RS); (try rw [decide_eq_true h12] at RS); (try rw [decide_eq_true (show 0 < us.length by omega)] at RS)
            go_wp2_with fail
            go_ret
            exact ⟨ret_b (by rw [RS.out]; rfl), HTr.out.low⟩
          · have e0 : ((us.length : Int) == 0) = false := by rw [beq_eq_false_iff_ne]; omega
            have e3 : decide ((us.length : Int) ≤ 12) = false := decide_eq_false (by omega)
            have e4 : decide ((1 : Int) ≤ (us.length : Int)) = true := decide_eq_true (by omega)
            have e5 : decide ((0 : Int) ≤ (us.length : Int)) = true := decide_eq_true (by omega)
            (try rw [decide_eq_false h0] at RS); (try rw [decide_eq_false h12] at RS); (try rw [decide_eq_true (show 0 < us.length by omega)] at RS)
            go_wp2_with fail
            go_ret
            exact ⟨ret_b (by rw [RS.out]; rfl), HTr.out.low⟩
    | true =>
      simp only [Bool.not_true] at HNe
      go_wp2_with fail
      refine wp_region_held_drew (S := (fun W => ∀ o, W.cell? ⟨w.heap.size, o, none⟩ = (#[.int .i64 6, .string x1, .string x2, .string x3, .string x4, .slice wo us.length wc] : Array Value)[o]?)) (by kernel_rfl) HT.out.drew.a.1 (fun hHeld => ?_)
      have HT := HT.out.drew
      obtain ⟨wk, hwk⟩ : ∃ W, W = wr.drew := ⟨_, rfl⟩
      rw [← hwk] at HT hHeld ⊢
      clear hwk
      (refine hyes 0 ?_); (refine hyes 1 ?_); (refine hyes 3 ?_); (refine hyes 4 ?_); (refine hyes 5 ?_); (refine hyes 6 ?_); (try simp only [Act.put, List.setIfInBounds_toArray, List.set])
      (refine held_call 2 rfl (by kernel_rfl) (fun K hK => ?_); go_simp)
      go_at_call 123; refine (SE.out _).mono ?_; rintro e wz2 ⟨rfl, rfl⟩
      (refine hK.out _ _ ((HT.a.1)) (fun hHeld => ?_); clear hK K; (try simp only [Act.put, List.setIfInBounds_toArray, List.set]))
      (refine hyes 7 ?_); (refine hyes 8 ?_); (try simp only [Act.put, List.setIfInBounds_toArray, List.set])
      (refine hno 9 ?_); (try simp only [Act.put, List.setIfInBounds_toArray, List.set])
      (refine hno 10 ?_); (try simp only [Act.put, List.setIfInBounds_toArray, List.set])
      (refine hno 11 ?_); (try simp only [Act.put, List.setIfInBounds_toArray, List.set])
      (refine hno 12 ?_); (try simp only [Act.put, List.setIfInBounds_toArray, List.set])
      (refine hno 13 ?_); (try simp only [Act.put, List.setIfInBounds_toArray, List.set])
      (refine hno 14 ?_); (try simp only [Act.put, List.setIfInBounds_toArray, List.set])
      (refine hno 15 ?_); (try simp only [Act.put, List.setIfInBounds_toArray, List.set])
      (refine hno 16 ?_); (try simp only [Act.put, List.setIfInBounds_toArray, List.set])
      (refine hno 17 ?_); (try simp only [Act.put, List.setIfInBounds_toArray, List.set])
      (refine hyes 18 ?_); (try simp only [Act.put, List.setIfInBounds_toArray, List.set])
      refine wpAnyH_done (by kernel_rfl) ?_ _
      have HTr := Lib.hid HT
      clear HT
      go_wp2_with fail
      go_ret
      exact ⟨ret_b (by rw [RS.out, RBN.out (by first | rfl | trivial)]; rfl), HTr.out.low⟩
end Go.Proofs.YtnhkgfgbhedphaaGreatDoor
namespace Go.Proofs.YtnhkgfgbhedphaaGreatDoor

def wAlways : ByteArray := ⟨#[97, 108, 119, 97, 121, 115]⟩
def wCan : ByteArray := ⟨#[99, 97, 110]⟩
def wHas : ByteArray := ⟨#[104, 97, 115]⟩
def wHave : ByteArray := ⟨#[104, 97, 118, 101]⟩
def wWithin : ByteArray := ⟨#[119, 105, 116, 104, 105, 110]⟩
def wBe : ByteArray := ⟨#[98, 101]⟩
def wEmpty : ByteArray := ⟨#[101, 109, 112, 116, 121]⟩
def wApart : ByteArray := ⟨#[97, 112, 97, 114, 116]⟩
def wIn : ByteArray := ⟨#[105, 110]⟩
def wBeEmpty : ByteArray := ⟨#[98, 101, 32, 101, 109, 112, 116, 121]⟩
structure Qd where
  k : Int
  a : Rl
  b : Rl
  us : List ByteArray
def noQd : Qd := ⟨0, noR, noR, []⟩
def Tok.tx (t : Tok) : ByteArray := ⟨t.text.toArray⟩
def Rd.want (r : Rd) (f : Tok → Bool) : ByteArray × Rd :=
  if r.why ≠ 0 then (emp, r) else
  match r.l with
  | [] => (emp, r.fail r.e 3)
  | t :: _ => if f t = true then (t.tx, r.drop1) else (emp, r.fail t.col 2)
def wordIn (ws : List ByteArray) (t : Tok) : Bool := decide (t.kind = 2) && hasB ws t.tx
def Rd.word (r : Rd) (ws : List ByteArray) : ByteArray × Rd := r.want (wordIn ws)
def askW (u : Bool) : List ByteArray := if u = true then [wHas, wWithin, wApart, wIn] else [wHave, wBe]
def kindW (s : ByteArray) : Int := if s = wHas then 1 else if s = wHave then 2 else if s = wWithin then 3 else if s = wBe then 4 else if s = wApart then 5 else if s = wIn then 6 else 0
def Rd.ask (r : Rd) (u : Bool) : Int × Rd := (kindW (r.word (askW u)).1, if kindW (r.word (askW u)).1 = 4 then ((r.word (askW u)).2.word [wEmpty]).2 else (r.word (askW u)).2)
def whoT (few : Int) : List Tok → Nat → List ByteArray → Int → Int → List ByteArray × Rd
  | [], n, acc, e, p => if (n : Int) < few then (insSB acc emp, ⟨[], e, e, 3⟩) else (acc, ⟨[], e, p, 0⟩)
  | t :: l, n, acc, e, p =>
    if t.kind = 1 then if acc.length = 12 ∧ hasB acc t.tx = false then ([], ⟨t :: l, e, t.col, 5⟩) else whoT few l (n + 1) (insSB acc t.tx) e p
    else (insSB acc emp, ⟨t :: l, e, t.col, 2⟩)
def Rd.who (r : Rd) (few : Int) : List ByteArray × Rd := if r.why ≠ 0 then ([], r) else whoT few r.l 0 [] r.e r.p
def Rd.endQ (r : Rd) (q : Qd) : Qd × Int × Int :=
  if r.why ≠ 0 then (noQd, r.p, r.why) else match r.l with | [] => (q, 0, 0) | t :: _ => (noQd, t.col, 2)
def Rd.roleB (r : Rd) (k : Int) : Rl × Rd := if secB k = true then r.role else (noR, r)
def Rd.whoB (r : Rd) (k : Int) : List ByteArray × Rd := if 0 ≤ leastI k then r.who (leastI k) else ([], r)
def tailQ (k : Int) (a : Rl) (r : Rd) : Qd × Int × Int := ((r.roleB k).2.whoB k).2.endQ ⟨k, a, (r.roleB k).1, ((r.roleB k).2.whoB k).1⟩
def midQ (u : Bool) (r : Rd) : Qd × Int × Int := tailQ (r.role.2.ask u).1 r.role.1 (r.role.2.ask u).2
def readQ (l : List Tok) (e : Int) : Qd × Int × Int := midQ (decide (((Rd.mk l e 0 0).word [wAlways, wCan]).1 = wAlways)) ((Rd.mk l e 0 0).word [wAlways, wCan]).2

/-! The document's answer. -/
def nameT (t : Tok) (s : ByteArray) : Bool := decide (t.kind = 2) && decide (t.tx = s)
def wordsQ (k : Int) : ByteArray := if k = 1 then wHas else if k = 2 then wHave else if k = 3 then wWithin else if k = 4 then wBeEmpty else if k = 5 then wApart else if k = 6 then wIn else emp
def goesQ (k : Int) (i : Nat) (t : Tok) : Bool :=
  if i = 0 then (univB k && nameT t wAlways) || (!univB k && nameT t wCan)
  else if i = 1 then decide (t.kind = 1) else if i = 2 then decide (t.kind = 3) else if i = 3 then decide (t.kind = 2)
  else if i = 4 then (decide (k = 4) && nameT t wBe) || (!decide (k = 4) && nameT t (wordsQ k))
  else if i = 5 then (decide (k = 4) && nameT t wEmpty) || (decide (5 ≤ k) && decide (t.kind = 1))
  else if i = 6 then decide (5 ≤ k) && decide (t.kind = 3)
  else if i = 7 then decide (5 ≤ k) && decide (t.kind = 2) else false
def frontQ (k : Int) : Nat := if k = 4 then 6 else if 5 ≤ k then 8 else 5
def fitQ (k : Int) : Nat → List Tok → Nat
  | i, t :: l => if i < frontQ k ∧ goesQ k i t = true then fitQ k (i + 1) l + 1 else 0
  | _, [] => 0
def txQ (l : List Tok) (i : Nat) : ByteArray := (l.getD i ⟨0, [], 0⟩).tx
def restQ (k : Int) (q : Qd) (e : Int) : List Tok → Qd × Int × Int
  | t :: l => if k ≤ 3 ∧ t.kind = 1 then if 12 < (insSB q.us t.tx).length then (noQd, t.col, 5) else restQ k ⟨q.k, q.a, q.b, insSB q.us t.tx⟩ e l else (noQd, t.col, 2)
  | [] => if k ≤ 2 ∧ q.us.length = 0 then (noQd, e, 3) else (q, 0, 0)
def kindQ (k : Int) (l : List Tok) (e : Int) : Qd × Int × Int := restQ k ⟨k, ⟨txQ l 1, txQ l 3⟩, if 5 ≤ k then ⟨txQ l 5, txQ l 7⟩ else noR, []⟩ e (l.drop (frontQ k))
def bestQ (l : List Tok) : Nat := max (max (max (max (max (fitQ 1 0 l) (fitQ 2 0 l)) (fitQ 3 0 l)) (fitQ 4 0 l)) (fitQ 5 0 l)) (fitQ 6 0 l)
def endQ (l : List Tok) (e : Int) : Qd × Int × Int := if bestQ l = l.length then (noQd, e, 3) else (noQd, (l.getD (bestQ l) ⟨0, [], 0⟩).col, 2)
def refQ (l : List Tok) (e : Int) : Qd × Int × Int :=
  if fitQ 1 0 l = 5 then kindQ 1 l e else if fitQ 2 0 l = 5 then kindQ 2 l e else if fitQ 3 0 l = 5 then kindQ 3 l e
  else if fitQ 4 0 l = 6 then kindQ 4 l e else if fitQ 5 0 l = 8 then kindQ 5 l e else if fitQ 6 0 l = 8 then kindQ 6 l e else endQ l e
theorem insS_len1 {l : List ByteArray} {x : ByteArray} (h : hasB l x = false) : (insSB l x).length = l.length + 1 := by
  rw [insS_notB h, insAt_lenB (pos_leB l x)]
  have := pos_leB l x
  omega
end Go.Proofs.YtnhkgfgbhedphaaGreatDoor
