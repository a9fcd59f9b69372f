/- scan.Print: the tokens' texts, with a blank between two, but none at a dot. The statement ScanTokens: the walk of the law, and of its 'lives'. crupperref05.Roles: some row of roles comes back (printed by gen_roles.py). crupperref05.Prins, Names, Fits: some row of texts, some bool comes back (printed by gen_prins.py). crupperref05.Fits, crupperref04.Right, crupperref03.SameRoles: some bool comes back. crupperref04.Right: some bool comes back. crupperref05.SortRoles: the rows of roles in order that it makes (printed by gen_rlsort.py out of RefSort). crupperref03.SameRoles: whether two rows of roles are one. Plain laws of rows of roles in order (printed by gen_rlall.py out of OrdLaw, RefSort, StFns). slices.Compact and slices.SortFunc at rows of roles; policy.SortRoles (printed by gen_rlall.py out of Compact, SynSort). slices.SortFunc, slices.Clone at rows of roles; policy.SortRoles (printed by gen_rlall.py out of SynSort). slices.Equal, Grow and Concat at rows of roles (printed by gen_rlall.py out of StSlices, StUnion). slices.IndexFunc and slices.DeleteFunc at rows of roles. crupperref10.Of. The statement StateRows: the walk of the law. The statement StateParts: the walk of the law. How two policies differ, in plain Lean. Package delta: without, with, Back, Empty, Same. Two blocks of a call's own that stand whole. Whether two differences are the same (printed by gen_dlsame.py). Whether two rows of texts, two queries, two policies are the same: of the same ones. The statement ScanLines: the walk of the law. Roles and statements among a law's arguments: opened to data, and read again in a later world. -/
import Derived.Test.YtedkkegjiikcmaaDoorPart5
import Derived.KernelRfl
import Derived.Deep.RegionLawGrows
import Derived.Test.YtedkkegjiikcmaaDoorPart3
import Derived.Test.YtedkkegjiikcmaaDoorPart1
import Derived.ProofKit
import Derived.OpenShut
import Derived.ChangeMaps5
import Derived.Deep.Strs
namespace Go.Proofs.YtedkkegjiikcmaaDoor
open Go.RowKit Go.Shelf

def printT : Option Int → List Tok → List UInt8
  | _, [] => []
  | none, t :: r => t.text ++ printT (some t.kind) r
  | some k, t :: r => (if t.kind ≠ 3 ∧ k ≠ 3 then [32] else []) ++ t.text ++ printT (some t.kind) r
def lastKind (l : List Tok) (k : Nat) : Option Int := if k = 0 then none else l[k - 1]?.map (·.kind)
theorem printT_end (l : List Tok) (k : Nat) (p : Option Int) (h : ¬ k < l.length) : printT p (l.drop k) = [] := by
  rw [List.drop_of_length_le (by omega)]; cases p <;> rfl
theorem printT_first (l : List Tok) (h : 0 < l.length) : printT (lastKind l 0) (l.drop 0) = l[0].text ++ printT (lastKind l 1) (l.drop 1) := by
  rw [List.drop_eq_getElem_cons h]
  simp [lastKind, printT, List.getElem?_eq_getElem h]
theorem printT_blank (l : List Tok) (k : Nat) (hk : 0 < k) (h : k < l.length) (h1 : ¬ l[k].kind = 3) (h2 : ¬ l[k - 1].kind = 3) :
    printT (lastKind l k) (l.drop k) = [32] ++ l[k].text ++ printT (lastKind l (k + 1)) (l.drop (k + 1)) := by
  rw [List.drop_eq_getElem_cons h]
  generalize List.drop (k + 1) l = r
  simp [lastKind, printT, List.getElem?_eq_getElem h, List.getElem?_eq_getElem (show k - 1 < l.length by omega), show ¬ k = 0 by omega, h1, h2]
theorem printT_plain (l : List Tok) (k : Nat) (hk : 0 < k) (h : k < l.length) (h1 : l[k].kind = 3 ∨ l[k - 1].kind = 3) :
    printT (lastKind l k) (l.drop k) = l[k].text ++ printT (lastKind l (k + 1)) (l.drop (k + 1)) := by
  rw [List.drop_eq_getElem_cons h]
  generalize List.drop (k + 1) l = r
  rcases h1 with h1 | h1 <;> simp [lastKind, printT, List.getElem?_eq_getElem h, List.getElem?_eq_getElem (show k - 1 < l.length by omega), show ¬ k = 0 by omega, h1]

def PrRel (B : Nat) (w : World) (l : List Tok) (i : Value) (wr : World) : Prop :=
  ∃ (k : Nat) (acc : List UInt8), k ≤ l.length ∧ i = .int .i64 k ∧ acc.length ≤ k * 1001 ∧ SbAt B B acc wr ∧ Below B w wr ∧ printT none l = acc ++ printT (lastKind l k) (l.drop k)

set_option maxRecDepth 100000 in
set_option maxHeartbeats 2000000 in
theorem scan_Print (va : Value) (l : List Tok) (w : World) (ha : Sl w 3 va l.length (l.flatMap Tok.cells)) (hl : l.length ≤ 100000) (ht : ∀ t ∈ l, t.text.length ≤ 1000) :
    Calls Tryd.prog 38 #[va] w fun e w' => e = .returned (.string ⟨(printT none l).toArray⟩) ∧ Below w.heap.size w w' := by
  by_cases h0 : 0 < l.length
  · obtain ⟨b1, o1, c1, rfl, hc1, hm1, hb1, hx1⟩ := ha.pos h0
    have HX1 := Lib.hid hx1
    have HT := Lib.hid ht
    clear ha hx1 ht
    go_enter Tryd.func38, Tryd.ntmps38
    go_wp2
    go_loopw [8] (PrRel w.heap.size w l) (fun i _ => l.length - (intOf i).toNat)
    case atStart => exact ⟨0, [], by omega, rfl, by simp, sb_new w _ (Nat.le_refl _), (Below.refl _ _).alloc (Nat.le_refl _) _, rfl⟩
    case round =>
      obtain ⟨k, acc, hk, rfl, hacc, hsb, hb, hpr⟩ := hrel
      have HP := Lib.hid hpr
      have HSB := Lib.hid hsb
      clear hpr hsb
      have hsz := hb.size
      have hlb := sb_lt HSB.out
      by_cases hlt : k < l.length
      · obtain ⟨p0, p1, p2⟩ := tok_cell HX1.out k hlt
        rw [← hb.cell hb1] at p0 p1 p2
        have htx := HT.out l[k] (List.getElem_mem _)
        rcases Nat.eq_zero_or_pos k with hk0 | hk0
        · subst hk0
          have HN := Lib.hid (show printT none l = acc ++ l[0].text ++ printT (lastKind l (0 + 1)) (l.drop (0 + 1)) by rw [List.append_assoc]; exact HP.out.trans (congrArg (acc ++ ·) (printT_first l h0)))
          simp only [Nat.zero_mul, Nat.add_zero] at p0 p1 p2
          go_wp2_with fail
          refine (sb_WriteString w.heap.size w.heap.size acc ⟨l[0].text.toArray⟩ _ (sb_alloc HSB.out _) (by simp [ByteArray.size]; omega) (by simp; omega)).mono ?_
          rintro e w1 ⟨rfl, hs1, hb1, hk1⟩
          go_wp2
          exact ⟨⟨0 + 1, acc ++ l[0].text, by omega, by go_num, by simp; omega, hs1, (hb.alloc hsz _).trans hb1, HN.out⟩, by simp [intOf]; omega⟩
        · by_cases h3 : l[k].kind = 3
          · have b3 : (l[k].kind != 3) = false := by simp [h3]
            have HN := Lib.hid (show printT none l = acc ++ l[k].text ++ printT (lastKind l (k + 1)) (l.drop (k + 1)) by rw [List.append_assoc]; exact HP.out.trans (congrArg (acc ++ ·) (printT_plain l k hk0 hlt (.inl h3))))
            clear h3
            go_wp2_with fail
            refine (sb_WriteString w.heap.size w.heap.size acc ⟨l[k].text.toArray⟩ _ (sb_alloc HSB.out _) (by simp [ByteArray.size]; omega) (by simp; omega)).mono ?_
            rintro e w1 ⟨rfl, hs1, hb1, hk1⟩
            go_wp2
            exact ⟨⟨k + 1, acc ++ l[k].text, by omega, by go_num, by simp; omega, hs1, (hb.alloc hsz _).trans hb1, HN.out⟩, by simp [intOf]; omega⟩
          · have b3 : (l[k].kind != 3) = true := by simp [h3]
            obtain ⟨m, rfl⟩ : ∃ m, k = m + 1 := ⟨k - 1, by omega⟩
            obtain ⟨q0, q1, q2⟩ := tok_cell HX1.out m (by omega)
            rw [← hb.cell hb1] at q0
            have hlb1 : b1 < wr.heap.size := Nat.lt_of_lt_of_le hb1 hsz
            clear q1 q2
            by_cases h3' : l[m].kind = 3
            · have b3' : (l[m].kind != 3) = false := by simp [h3']
              have HN := Lib.hid (show printT none l = acc ++ l[m + 1].text ++ printT (lastKind l (m + 1 + 1)) (l.drop (m + 1 + 1)) by rw [List.append_assoc]; exact HP.out.trans (congrArg (acc ++ ·) (printT_plain l (m + 1) hk0 hlt (.inr h3'))))
              clear h3 h3'
              go_wp2_with fail
              refine (sb_WriteString w.heap.size w.heap.size acc ⟨l[m + 1].text.toArray⟩ _ (sb_alloc HSB.out _) (by simp [ByteArray.size]; omega) (by simp; omega)).mono ?_
              rintro e w1 ⟨rfl, hs1, hb1, hk1⟩
              go_wp2
              exact ⟨⟨(m + 1) + 1, acc ++ l[m + 1].text, by omega, by go_num, by simp; omega, hs1, (hb.alloc hsz _).trans hb1, HN.out⟩, by simp [intOf]; omega⟩
            · have b3' : (l[m].kind != 3) = true := by simp [h3']
              have HN := Lib.hid (show printT none l = acc ++ [32] ++ l[m + 1].text ++ printT (lastKind l (m + 1 + 1)) (l.drop (m + 1 + 1)) by
                rw [List.append_assoc, List.append_assoc, ← List.append_assoc [32]]; exact HP.out.trans (congrArg (acc ++ ·) (printT_blank l (m + 1) hk0 hlt h3 h3')))
              clear h3 h3'
              go_wp2_with fail
              refine (sb_WriteString w.heap.size w.heap.size acc ⟨#[32]⟩ _ (sb_alloc HSB.out _) (by simp [ByteArray.size]; omega) (by simp; omega)).mono ?_
              rintro e w1 ⟨rfl, hs1, hb1, hk1⟩
              have c1 := kept_cell hk1 (g := wr.heap.size) (o := 1) (u := .string ⟨l[m + 1].text.toArray⟩) (heap_new1 _ _) (by omega) (by decide) rfl
              have hsz1 := hb1.size
              go_wp2_with fail
              refine (sb_WriteString w.heap.size w.heap.size (acc ++ [32]) ⟨l[m + 1].text.toArray⟩ _ hs1 (by simp [ByteArray.size]; omega) (by simp at hsz1; omega)).mono ?_
              rintro e w2 ⟨rfl, hs2, hb2, hk2⟩
              go_wp2
              exact ⟨⟨(m + 1) + 1, acc ++ [32] ++ l[m + 1].text, by omega, by go_num, by simp; omega, hs2, ((hb.alloc hsz _).trans hb1).trans hb2, HN.out⟩, by simp [intOf]; omega⟩
      · have HN := Lib.hid (HP.out.trans (congrArg (acc ++ ·) (printT_end l k _ hlt)))
        go_wp2_with (go_at_call 78; refine (Tryd.Builder_String_any_k w.heap.size w.heap.size acc _ HSB.out hsz).mono ?_; rintro e w1 ⟨rfl, _, hb1, _⟩)
        go_ret
        rw [List.append_nil] at HN
        exact ⟨ret_s (by rw [HN.out]), hb.trans hb1⟩
  · obtain ⟨a1, c1, rfl⟩ := ha.form
    obtain rfl : l = [] := List.eq_nil_of_length_eq_zero (by omega)
    clear ha h0
    go_enter Tryd.func38, Tryd.ntmps38
    go_wp2
    go_loopw [8] (fun i wr => i = .int .i64 0 ∧ wr = w.alloc (.cells #[.pointer none, .slice none 0 0] 89)) (fun _ _ => 0)
    case atStart => exact ⟨rfl, rfl⟩
    case round =>
      obtain ⟨rfl, rfl⟩ := hrel
      go_wp2_with (go_at_call 78; refine (Tryd.Builder_String_any_k w.heap.size w.heap.size [] _ (sb_new w _ (Nat.le_refl _)) (by simp)).mono ?_; rintro e w1 ⟨rfl, _, hb1, _⟩)
      go_ret
      exact ⟨rfl, ((Below.refl _ _).alloc (Nat.le_refl _) _).trans hb1⟩
end Go.Proofs.YtedkkegjiikcmaaDoor
namespace Go.Proofs.YtedkkegjiikcmaaDoor
open Go.RowKit Go.Shelf

def livesToks : List Tok := [⟨1, [65], 1⟩, ⟨3, [46], 2⟩, ⟨2, [114], 3⟩, ⟨4, [60, 45], 5⟩, ⟨1, [66], 8⟩]
theorem lives_tokens : tokens [65, 46, 114, 32, 60, 45, 32, 66, 32, 35, 32, 120] = (livesToks, 0, 0) := by kernel_rfl
theorem lives_print : printT none livesToks = [65, 46, 114, 32, 60, 45, 32, 66] := by kernel_rfl

set_option maxRecDepth 100000 in
set_option maxHeartbeats 1000000 in
theorem law2_lives (w : World) (hg : Gl w) : Calls Tryd.prog 12 #[] w fun e w' => e = .returned (.bool true) ∧ Below w.heap.size w w' := by
  have HT := Lib.hid (scan_Tokens ⟨#[65, 46, 114, 32, 60, 45, 32, 66, 32, 35, 32, 120]⟩ w (by decide) hg)
  have HP := Lib.hid fun va W (h : Sl W 3 va livesToks.length (livesToks.flatMap Tok.cells)) => scan_Print va livesToks W h (by decide) (by decide)
  go_enter Tryd.func12, Tryd.ntmps12
  go_wp2_with fail
  refine HT.out.mono ?_
  rintro e w1 ⟨v, rfl, hown, hb⟩
  rw [show tokens (bl ⟨#[65, 46, 114, 32, 60, 45, 32, 66, 32, 35, 32, 120]⟩) = (livesToks, 0, 0) from lives_tokens] at hown ⊢
  have hsl := Sl.of_own hown
  obtain ⟨b, o, c, rfl, hc, hm, hlt, hx⟩ := hsl.pos (by decide)
  have hp := HP.out _ w1 hsl
  rw [lives_print, show livesToks.length = 5 from rfl] at hp
  have HP := Lib.hid hp
  clear hp
  obtain ⟨p0, p1, p2⟩ := tok_cell hx 3 (by decide)
  obtain ⟨q0, q1, q2⟩ := tok_cell hx 4 (by decide)
  clear hx hown hsl p1 q1 q0
  change w1.cell? ⟨b, o + 9, none⟩ = some (.int .i64 4) at p0
  change w1.cell? ⟨b, o + 11, none⟩ = some (.int .i64 5) at p2
  change w1.cell? ⟨b, o + 14, none⟩ = some (.int .i64 8) at q2
  have hlen : livesToks.length = 5 := rfl
  go_wp2_with (go_at_call 38; refine HP.out.mono ?_; rintro e w2 ⟨rfl, hb2⟩)
  go_ret
  exact ⟨rfl, hb.trans (hb2.mono hb.size)⟩

end Go.Proofs.YtedkkegjiikcmaaDoor
namespace Go.Proofs.YtedkkegjiikcmaaDoor
open Go.RowKit Go.Shelf

end Go.Proofs.YtedkkegjiikcmaaDoor
namespace Go.Proofs.YtedkkegjiikcmaaDoor
open Go.RowKit Go.Shelf

end Go.Proofs.YtedkkegjiikcmaaDoor
namespace Go.Proofs.YtedkkegjiikcmaaDoor
open Go.RowKit Go.Shelf

end Go.Proofs.YtedkkegjiikcmaaDoor
namespace Go.Proofs.YtedkkegjiikcmaaDoor
open Go.RowKit Go.Shelf

end Go.Proofs.YtedkkegjiikcmaaDoor
namespace Go.Proofs.YtedkkegjiikcmaaDoor
open Go.RowKit Go.Shelf
abbrev Two (w : World) (b o : Nat) (s : Rl) : Prop := w.cell? ⟨b, o, none⟩ = some (.string s.o) ∧ w.cell? ⟨b, o + 1, none⟩ = some (.string s.n)
end Go.Proofs.YtedkkegjiikcmaaDoor
namespace Go.Proofs.YtedkkegjiikcmaaDoor
open Go.RowKit Go.Shelf

end Go.Proofs.YtedkkegjiikcmaaDoor
namespace Go.Proofs.YtedkkegjiikcmaaDoor
open Go.RowKit Go.Shelf

end Go.Proofs.YtedkkegjiikcmaaDoor
namespace Go.Proofs.YtedkkegjiikcmaaDoor
open Go.RowKit Go.Shelf

def W2 (w : World) (b a : Nat) (s : Rl) : World := (w.setCell ⟨b, a, none⟩ (.string s.o)).setCell ⟨b, a + 1, none⟩ (.string s.n)
end Go.Proofs.YtedkkegjiikcmaaDoor
namespace Go.Proofs.YtedkkegjiikcmaaDoor
open Go.RowKit Go.Shelf Go.Lib Go.Sort

instance rlInh : Inhabited Rl := ⟨⟨ByteArray.empty, ByteArray.empty⟩⟩
end Go.Proofs.YtedkkegjiikcmaaDoor
namespace Go.Proofs.YtedkkegjiikcmaaDoor
open Go.RowKit Go.Shelf

end Go.Proofs.YtedkkegjiikcmaaDoor
namespace Go.Proofs.YtedkkegjiikcmaaDoor
open Go.RowKit Go.Shelf

end Go.Proofs.YtedkkegjiikcmaaDoor
namespace Go.Proofs.YtedkkegjiikcmaaDoor
open Go.RowKit Go.Shelf

end Go.Proofs.YtedkkegjiikcmaaDoor
namespace Go.Proofs.YtedkkegjiikcmaaDoor
open Go.RowKit Go.Shelf

end Go.Proofs.YtedkkegjiikcmaaDoor
namespace Go.Proofs.YtedkkegjiikcmaaDoor
open Go.RowKit Go.Shelf

end Go.Proofs.YtedkkegjiikcmaaDoor
namespace Go.Proofs.YtedkkegjiikcmaaDoor
open Go.RowKit Go.Shelf

end Go.Proofs.YtedkkegjiikcmaaDoor
namespace Go.Proofs.YtedkkegjiikcmaaDoor
open Go.RowKit Go.Shelf

end Go.Proofs.YtedkkegjiikcmaaDoor
namespace Go.Proofs.YtedkkegjiikcmaaDoor
open Go.RowKit Go.Shelf

end Go.Proofs.YtedkkegjiikcmaaDoor
namespace Go.Proofs.YtedkkegjiikcmaaDoor
open Go.RowKit Go.Shelf

end Go.Proofs.YtedkkegjiikcmaaDoor
namespace Go.Proofs.YtedkkegjiikcmaaDoor
open Go.RowKit Go.Shelf

set_option maxRecDepth 100000 in
set_option maxHeartbeats 1000000 in
theorem ref1_SameT (va vb : Value) (l : List ByteArray) (w : World) (ha : SlA w 1 va l.length (strs l)) (hb : SlA w 1 vb l.length (strs l)) :
    Calls Tryd.prog 8 #[va, vb] w fun e w' => e = .returned (.bool true) ∧ ∃ n, w' = w.drewN n := by
  have hmax := ha.max
  have hne : ((l.length : Int) != (l.length : Int)) = false := by simp
  by_cases h0 : 0 < l.length
  · obtain ⟨b1, o1, c1, rfl, hc1, hm1, _, hx1⟩ := ha.pos h0
    obtain ⟨b2, o2, c2, rfl, hc2, hm2, _, hx2⟩ := hb.pos h0
    have HX1 := Lib.hid hx1
    have HX2 := Lib.hid hx2
    clear ha hb hx1 hx2
    go_enter Tryd.func8, Tryd.ntmps8
    go_wp2
    go_loopw [13] (fun i wr => ∃ k n : Nat, k ≤ l.length ∧ i = .int .i64 k ∧ wr = w.drewN n) (fun i _ => l.length - (intOf i).toNat)
    case atStart => exact ⟨0, 0, by omega, rfl, rfl⟩
    case round =>
      obtain ⟨k, n, hk, rfl, rfl⟩ := hrel
      by_cases hlt : k < l.length
      · have p0 := HX1.out k _ (strs_get hlt)
        have q0 := HX2.out k _ (strs_get hlt)
        go_wp2_with fail
        go_quiet (fail)
        go_wp2
        exact ⟨⟨k + 1, n + nq, by omega, by go_num, rfl⟩, by simp [intOf]; omega⟩
      · go_wp2
        go_ret
        exact ⟨rfl, n, rfl⟩
  · obtain ⟨a1, c1, rfl⟩ := ha.form
    obtain ⟨a2, c2, rfl⟩ := hb.form
    obtain rfl : l = [] := List.eq_nil_of_length_eq_zero (by omega)
    clear ha hb h0 hmax
    go_enter Tryd.func8, Tryd.ntmps8
    go_wp2
    go_loopw [13] (fun i wr => i = .int .i64 0 ∧ wr = w) (fun _ _ => 0)
    case atStart => exact ⟨rfl, rfl⟩
    case round =>
      obtain ⟨rfl, rfl⟩ := hrel
      go_wp2
      go_ret
      exact ⟨rfl, 0, rfl⟩
theorem ref1_SameB (va vb : Value) (l : List ByteArray) (w : World) (ha : SlA w 1 va l.length (strs l)) (hb : SlA w 1 vb l.length (strs l)) :
    Calls Tryd.prog 8 #[va, vb] w fun e w' => e = .returned (.bool true) ∧ Below w.heap.size w w' :=
  (ref1_SameT va vb l w ha hb).mono fun e w' ⟨he, n, hn⟩ => ⟨he, by rw [hn]; exact below_of_drewN n⟩
end Go.Proofs.YtedkkegjiikcmaaDoor
namespace Go.Proofs.YtedkkegjiikcmaaDoor
open Go.RowKit Go.Shelf

def joinN (l : List ByteArray) : List UInt8 := l.flatMap fun x => bl x ++ [10]
theorem joinN_snoc {l : List ByteArray} {j : Nat} (h : j < l.length) : joinN (l.take (j + 1)) = joinN (l.take j) ++ (bl l[j] ++ [10]) := by
  unfold joinN
  rw [List.take_succ_eq_append_getElem h, List.flatMap_append]
  simp
theorem joinN_all (s : ByteArray) : joinN (linesB s) = bl s ∨ joinN (linesB s) = bl s ++ [10] := by
  have h := lines_last (bl s)
  have e : joinN (linesB s) = (linesP (bl s)).flatMap fun p => p.1 ++ [10] := by
    unfold joinN linesB
    rw [List.flatMap_map]
    rfl
  rw [e]
  exact h
theorem linesB_size (s : ByteArray) : ∀ x ∈ linesB s, x.size ≤ s.size := fun x hx => by
  obtain ⟨p, hp, rfl⟩ := List.mem_map.1 hx
  have h1 := lines_size (bl s) p hp
  have h2 := full_len p
  rw [bl_len] at h1
  rw [← bl_len]
  show p.1.length ≤ s.size
  omega
theorem linesB_len (s : ByteArray) : (linesB s).length ≤ s.size := by
  unfold linesB
  rw [List.length_map, ← bl_len]
  exact lines_len _
set_option maxRecDepth 100000 in
set_option maxHeartbeats 8000000 in
theorem law2_ScanLines (s : ByteArray) (w : World) (hg : Gl w) (hs : s.size ≤ 9223372036854775807) :
    Calls Tryd.prog 3 #[.string s] w fun e w' => e = .returned (.bool true) ∧ Below w.heap.size w w' := by
  have HL := Lib.hid (fun W (h : Gl W) => law2_lives W h)
  have HG := Lib.hid hg
  have hr : (s.extract 0 (min (s.size : Int) 1000).toNat).size ≤ 1000 := by simp; omega
  clear hg
  go_enter Tryd.func3, Tryd.ntmps3
  go_wp2_with fail
  generalize s.extract 0 (min (s.size : Int) 1000).toNat = r at hr ⊢
  have P1 := Lib.hid (scan_Lines r w (by omega))
  have P2 := Lib.hid (fun W => ref2_Lines r W (by omega))
  have hln := linesB_len r
  have HZ := Lib.hid (linesB_size r)
  have HA := Lib.hid (joinN_all r)
  generalize linesB r = ls at *
  refine P1.out.mono ?_
  rintro e w1 ⟨v1, rfl, ho1, hb1⟩
  have HS1 := Lib.hid (Sl.of_own ho1).a
  have HB1 := Lib.hid hb1
  obtain ⟨a1, c1, rfl⟩ := own_form ho1
  clear ho1 hb1 P1
  go_wp2_with fail
  refine (P2.out _).mono ?_
  rintro e w2 ⟨v2, rfl, ho2, hb2⟩
  have HS2 := Lib.hid (Sl.of_own ho2).a
  obtain ⟨a2, c2, rfl⟩ := own_form ho2
  have SM := Lib.hid (ref1_SameB _ _ ls _ (HS1.out.below hb2) HS2.out)
  have HB2 := Lib.hid hb2
  clear ho2 hb2 P2
  go_wp2_with fail
  refine SM.out.mono ?_
  rintro e w3 ⟨rfl, hb3⟩
  have HB3 := Lib.hid (HB2.out.trans (hb3.mono HB2.out.size))
  clear hb3 SM HS2 HB2
  go_wp2_with fail
  go_loopw [4, 21] (fun o i wr => ∃ (j : Nat) (t : ByteArray), j ≤ ls.length ∧ i = .int .i64 j ∧ o = .string t ∧ Hid (bl t = joinN (ls.take j)) ∧ t.size ≤ j * 1001 ∧ Hid (Below w1.heap.size w1 wr)) (fun _ i _ => ls.length - (intOf i).toNat)
  case atStart => exact ⟨0, ⟨#[]⟩, by omega, rfl, rfl, Lib.hid rfl, Nat.zero_le _, HB3⟩
  case round =>
    obtain ⟨j, t, hj, rfl, rfl, HT, htz, HB⟩ := hrel
    have HBW := Lib.hid (HB1.out.trans (HB.out.mono HB1.out.size))
    by_cases hlt : j < ls.length
    · obtain ⟨b3, o3, c3, he3, hc3, hm3, hb3, hx3⟩ := (HS1.out.below HB.out).pos (by omega)
      simp only [Value.slice.injEq, true_and] at he3
      obtain ⟨rfl, rfl⟩ := he3
      have p3 := hx3 j _ (strs_get hlt)
      have hym : ls[j].size ≤ 1000 := Nat.le_trans (HZ.out _ (List.getElem_mem hlt)) hr
      have HN := Lib.hid (joinN_snoc hlt)
      clear hx3
      generalize ls[j] = y at *
      have T1 := Lib.hid (fun W h => scan_Trim y W (by omega) h)
      have T2 := Lib.hid (fun W => ref2_Trim y W (by omega))
      generalize trimT y = ty at *
      have h1 : (y ++ ⟨#[10]⟩ : ByteArray).size = y.size + 1 := by rw [ByteArray.size_append]; rfl
      have h2 : (t ++ (y ++ ⟨#[10]⟩) : ByteArray).size = t.size + (y.size + 1) := by rw [ByteArray.size_append, h1]
      have HT2 := Lib.hid (show bl (t ++ (y ++ ⟨#[10]⟩)) = joinN (ls.take (j + 1)) by rw [HN.out, bl_append, bl_append, HT.out])
      have H3 := Lib.hid (show (t ++ (y ++ ⟨#[10]⟩) : ByteArray).size ≤ (j + 1) * 1001 by rw [h2]; omega)
      clear HT HN
      go_wp2_with fail
      refine (T1.out _ (HG.out.below HBW.out)).mono ?_
      rintro e w4 ⟨rfl, hb4⟩
      have HB4 := Lib.hid (HB.out.trans (hb4.mono HB.out.size))
      clear hb4 T1
      go_wp2_with fail
      refine (T2.out _).mono ?_
      rintro e w5 ⟨rfl, hw5⟩
      have HB5 := Lib.hid (show Below w1.heap.size w1 w5 by rw [hw5]; exact HB4.out)
      clear hw5 T2
      go_wp2_with fail
      exact ⟨⟨j + 1, t ++ (y ++ ⟨#[10]⟩), by omega, by go_num, rfl, HT2, H3.out, HB5⟩, by simp [intOf]; omega⟩
    · have HT := Lib.hid (show bl t = joinN ls by rw [HT.out, List.take_of_length_le (by omega)])
      have hrs : (r ++ ⟨#[10]⟩ : ByteArray).size = r.size + 1 := by rw [ByteArray.size_append]; rfl
      by_cases h : t = r
      · have d1 : (t.toList == r.toList) = true := by rw [beq_str]; exact decide_eq_true h
        clear h
        go_wp2_with fail
        refine (HL.out _ (HG.out.below HBW.out)).mono ?_
        rintro e w6 ⟨rfl, hb6⟩
        have HB6 := Lib.hid (HBW.out.trans (hb6.mono HBW.out.size))
        clear hb6
        go_wp2
        go_ret
        exact ⟨rfl, HB6.out⟩
      · have d1 : (t.toList == r.toList) = false := by rw [beq_str]; exact decide_eq_false h
        have d2 : (t.toList == (r ++ ⟨#[10]⟩ : ByteArray).toList) = true := by
          rw [beq_str]
          refine decide_eq_true (bl_inj.1 ?_)
          rw [HT.out, bl_append]
          rcases HA.out with e | e
          · exact absurd (bl_inj.1 (HT.out.trans e)) h
          · exact e
        clear h
        go_wp2_with fail
        refine (HL.out _ (HG.out.below HBW.out)).mono ?_
        rintro e w6 ⟨rfl, hb6⟩
        have HB6 := Lib.hid (HBW.out.trans (hb6.mono HBW.out.size))
        clear hb6
        go_wp2
        go_ret
        exact ⟨rfl, HB6.out⟩
end Go.Proofs.YtedkkegjiikcmaaDoor
namespace Go.Proofs.YtedkkegjiikcmaaDoor
open Go.ChangeShapes Go.WideShapes Go.ChangeAt Go.RowKit

section
variable {H : Type} {enc : TypeId × Value → H} {w : World} {base fuel n : Nat} {sp : Nat → Bool} {held : Bool} {cs : List Value} {x : DataW H × List MemPlace} {v : Value} {d : DataW H} {ps : List MemPlace}
def dStr (H : Type) (s : ByteArray) : DataW H := .lit (.string s.data.toList)
end
end Go.Proofs.YtedkkegjiikcmaaDoor
