/- scan.Print: the tokens' texts, with a blank between two, but none at a dot. -/
import Derived.Test.YtakpahlgbcgnmaaRef02Alike
import Derived.Test.YtakpahlgbcgnmaaBuilder
namespace Go.Proofs.Ytakpahlgbcgnmaa
open Go.RowKit Go.Shelf

/-- The text of tokens behind one of a kind (or none). -/
def printT : Option Int → List Tok → List UInt8
  | _, [] => []
  | none, t :: r => t.text ++ printT (some t.kind) r
  | some k, t :: r => (if t.kind ≠ 3 ∧ k ≠ 3 then [32] else []) ++ t.text ++ printT (some t.kind) r
def lastKind (l : List Tok) (k : Nat) : Option Int := if k = 0 then none else l[k - 1]?.map (·.kind)
theorem printT_end (l : List Tok) (k : Nat) (p : Option Int) (h : ¬ k < l.length) : printT p (l.drop k) = [] := by
  rw [List.drop_of_length_le (by omega)]; cases p <;> rfl
theorem printT_first (l : List Tok) (h : 0 < l.length) : printT (lastKind l 0) (l.drop 0) = l[0].text ++ printT (lastKind l 1) (l.drop 1) := by
  rw [List.drop_eq_getElem_cons h]
  simp [lastKind, printT, List.getElem?_eq_getElem h]
theorem printT_blank (l : List Tok) (k : Nat) (hk : 0 < k) (h : k < l.length) (h1 : ¬ l[k].kind = 3) (h2 : ¬ l[k - 1].kind = 3) :
    printT (lastKind l k) (l.drop k) = [32] ++ l[k].text ++ printT (lastKind l (k + 1)) (l.drop (k + 1)) := by
  rw [List.drop_eq_getElem_cons h]
  generalize List.drop (k + 1) l = r
  simp [lastKind, printT, List.getElem?_eq_getElem h, List.getElem?_eq_getElem (show k - 1 < l.length by omega), show ¬ k = 0 by omega, h1, h2]
theorem printT_plain (l : List Tok) (k : Nat) (hk : 0 < k) (h : k < l.length) (h1 : l[k].kind = 3 ∨ l[k - 1].kind = 3) :
    printT (lastKind l k) (l.drop k) = l[k].text ++ printT (lastKind l (k + 1)) (l.drop (k + 1)) := by
  rw [List.drop_eq_getElem_cons h]
  generalize List.drop (k + 1) l = r
  rcases h1 with h1 | h1 <;> simp [lastKind, printT, List.getElem?_eq_getElem h, List.getElem?_eq_getElem (show k - 1 < l.length by omega), show ¬ k = 0 by omega, h1]

def PrRel (B : Nat) (w : World) (l : List Tok) (i : Value) (wr : World) : Prop :=
  ∃ (k : Nat) (acc : List UInt8), k ≤ l.length ∧ i = .int .i64 k ∧ acc.length ≤ k * 1001 ∧ SbAt B B acc wr ∧ Below B w wr ∧ printT none l = acc ++ printT (lastKind l k) (l.drop k)

set_option maxRecDepth 100000 in
set_option maxHeartbeats 2000000 in
theorem scan_Print (va : Value) (l : List Tok) (w : World) (ha : Sl w 3 va l.length (l.flatMap Tok.cells)) (hl : l.length ≤ 100000) (ht : ∀ t ∈ l, t.text.length ≤ 1000) :
    Calls Try.prog 14 #[va] w fun e w' => e = .returned (.string ⟨(printT none l).toArray⟩) ∧ Below w.heap.size w w' := by
  by_cases h0 : 0 < l.length
  · obtain ⟨b1, o1, c1, rfl, hc1, hm1, hb1, hx1⟩ := ha.pos h0
    have HX1 := Lib.hid hx1
    have HT := Lib.hid ht
    clear ha hx1 ht
    go_enter Try.func14, Try.ntmps14
    go_wp2
    go_loopw [8] (PrRel w.heap.size w l) (fun i _ => l.length - (intOf i).toNat)
    case atStart => exact ⟨0, [], by omega, rfl, by simp, sb_new w _ (Nat.le_refl _), (Below.refl _ _).alloc (Nat.le_refl _) _, rfl⟩
    case round =>
      obtain ⟨k, acc, hk, rfl, hacc, hsb, hb, hpr⟩ := hrel
      have HP := Lib.hid hpr
      have HSB := Lib.hid hsb
      clear hpr hsb
      have hsz := hb.size
      have hlb := sb_lt HSB.out
      by_cases hlt : k < l.length
      · obtain ⟨p0, p1, p2⟩ := tok_cell HX1.out k hlt
        rw [← hb.cell hb1] at p0 p1 p2
        have htx := HT.out l[k] (List.getElem_mem _)
        rcases Nat.eq_zero_or_pos k with hk0 | hk0
        · subst hk0
          have HN := Lib.hid (show printT none l = acc ++ l[0].text ++ printT (lastKind l (0 + 1)) (l.drop (0 + 1)) by rw [List.append_assoc]; exact HP.out.trans (congrArg (acc ++ ·) (printT_first l h0)))
          simp only [Nat.zero_mul, Nat.add_zero] at p0 p1 p2
          go_wp2_with fail
          refine (sb_WriteString w.heap.size w.heap.size acc ⟨l[0].text.toArray⟩ _ (sb_alloc HSB.out _) (by simp [ByteArray.size]; omega) (by simp; omega)).mono ?_
          rintro e w1 ⟨rfl, hs1, hb1, hk1⟩
          go_wp2
          exact ⟨⟨0 + 1, acc ++ l[0].text, by omega, by go_num, by simp; omega, hs1, (hb.alloc hsz _).trans hb1, HN.out⟩, by simp [intOf]; omega⟩
        · by_cases h3 : l[k].kind = 3
          · have b3 : (l[k].kind != 3) = false := by simp [h3]
            have HN := Lib.hid (show printT none l = acc ++ l[k].text ++ printT (lastKind l (k + 1)) (l.drop (k + 1)) by rw [List.append_assoc]; exact HP.out.trans (congrArg (acc ++ ·) (printT_plain l k hk0 hlt (.inl h3))))
            clear h3
            go_wp2_with fail
            refine (sb_WriteString w.heap.size w.heap.size acc ⟨l[k].text.toArray⟩ _ (sb_alloc HSB.out _) (by simp [ByteArray.size]; omega) (by simp; omega)).mono ?_
            rintro e w1 ⟨rfl, hs1, hb1, hk1⟩
            go_wp2
            exact ⟨⟨k + 1, acc ++ l[k].text, by omega, by go_num, by simp; omega, hs1, (hb.alloc hsz _).trans hb1, HN.out⟩, by simp [intOf]; omega⟩
          · have b3 : (l[k].kind != 3) = true := by simp [h3]
            obtain ⟨m, rfl⟩ : ∃ m, k = m + 1 := ⟨k - 1, by omega⟩
            obtain ⟨q0, q1, q2⟩ := tok_cell HX1.out m (by omega)
            rw [← hb.cell hb1] at q0
            have hlb1 : b1 < wr.heap.size := Nat.lt_of_lt_of_le hb1 hsz
            clear q1 q2
            by_cases h3' : l[m].kind = 3
            · have b3' : (l[m].kind != 3) = false := by simp [h3']
              have HN := Lib.hid (show printT none l = acc ++ l[m + 1].text ++ printT (lastKind l (m + 1 + 1)) (l.drop (m + 1 + 1)) by rw [List.append_assoc]; exact HP.out.trans (congrArg (acc ++ ·) (printT_plain l (m + 1) hk0 hlt (.inr h3'))))
              clear h3 h3'
              go_wp2_with fail
              refine (sb_WriteString w.heap.size w.heap.size acc ⟨l[m + 1].text.toArray⟩ _ (sb_alloc HSB.out _) (by simp [ByteArray.size]; omega) (by simp; omega)).mono ?_
              rintro e w1 ⟨rfl, hs1, hb1, hk1⟩
              go_wp2
              exact ⟨⟨(m + 1) + 1, acc ++ l[m + 1].text, by omega, by go_num, by simp; omega, hs1, (hb.alloc hsz _).trans hb1, HN.out⟩, by simp [intOf]; omega⟩
            · have b3' : (l[m].kind != 3) = true := by simp [h3']
              have HN := Lib.hid (show printT none l = acc ++ [32] ++ l[m + 1].text ++ printT (lastKind l (m + 1 + 1)) (l.drop (m + 1 + 1)) by
                rw [List.append_assoc, List.append_assoc, ← List.append_assoc [32]]; exact HP.out.trans (congrArg (acc ++ ·) (printT_blank l (m + 1) hk0 hlt h3 h3')))
              clear h3 h3'
              go_wp2_with fail
              refine (sb_WriteString w.heap.size w.heap.size acc ⟨#[32]⟩ _ (sb_alloc HSB.out _) (by simp [ByteArray.size]; omega) (by simp; omega)).mono ?_
              rintro e w1 ⟨rfl, hs1, hb1, hk1⟩
              have c1 := kept_cell hk1 (g := wr.heap.size) (o := 1) (u := .string ⟨l[m + 1].text.toArray⟩) (heap_new1 _ _) (by omega) (by decide) rfl
              have hsz1 := hb1.size
              go_wp2_with fail
              refine (sb_WriteString w.heap.size w.heap.size (acc ++ [32]) ⟨l[m + 1].text.toArray⟩ _ hs1 (by simp [ByteArray.size]; omega) (by simp at hsz1; omega)).mono ?_
              rintro e w2 ⟨rfl, hs2, hb2, hk2⟩
              go_wp2
              exact ⟨⟨(m + 1) + 1, acc ++ [32] ++ l[m + 1].text, by omega, by go_num, by simp; omega, hs2, ((hb.alloc hsz _).trans hb1).trans hb2, HN.out⟩, by simp [intOf]; omega⟩
      · have HN := Lib.hid (HP.out.trans (congrArg (acc ++ ·) (printT_end l k _ hlt)))
        go_wp2_with (go_at_call 19; refine (Try.Builder_String_any_k w.heap.size w.heap.size acc _ HSB.out hsz).mono ?_; rintro e w1 ⟨rfl, _, hb1, _⟩)
        go_ret
        rw [List.append_nil] at HN
        exact ⟨ret_s (by rw [HN.out]), hb.trans hb1⟩
  · obtain ⟨a1, c1, rfl⟩ := ha.form
    obtain rfl : l = [] := List.eq_nil_of_length_eq_zero (by omega)
    clear ha h0
    go_enter Try.func14, Try.ntmps14
    go_wp2
    go_loopw [8] (fun i wr => i = .int .i64 0 ∧ wr = w.alloc (.cells #[.pointer none, .slice none 0 0] 42)) (fun _ _ => 0)
    case atStart => exact ⟨rfl, rfl⟩
    case round =>
      obtain ⟨rfl, rfl⟩ := hrel
      go_wp2_with (go_at_call 19; refine (Try.Builder_String_any_k w.heap.size w.heap.size [] _ (sb_new w _ (Nat.le_refl _)) (by simp)).mono ?_; rintro e w1 ⟨rfl, _, hb1, _⟩)
      go_ret
      exact ⟨rfl, ((Below.refl _ _).alloc (Nat.le_refl _) _).trans hb1⟩
end Go.Proofs.Ytakpahlgbcgnmaa
