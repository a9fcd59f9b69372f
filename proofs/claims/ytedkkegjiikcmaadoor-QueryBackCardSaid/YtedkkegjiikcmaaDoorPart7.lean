/- Plain laws of statements and their lines: what is parsed may be; what may be is parsed from its line. strings.Builder, made by the call itself: copyCheck and WriteString at this program: the builder then holds what it held and the new bytes. (The library's own proofs, turned to this translation, in which the panic of copyCheck is refused.). strings.Builder's Grow, and strings.Join, at this program: the pieces with the separator between them. (The library's own proofs, turned to this translation, in which the panic of copyCheck is refused.). The line of a query, and its tokens. A query that may be is what its line is read as; what is read may be. Plain laws of rows of roles in order (printed by gen_rlall.py out of OrdLaw, RefSort, StFns). slices.Compact and slices.SortFunc at rows of roles; policy.SortRoles (printed by gen_rlall.py out of Compact, SynSort). slices.SortFunc, slices.Clone at rows of roles; policy.SortRoles (printed by gen_rlall.py out of SynSort). slices.Equal, Grow and Concat at rows of roles (printed by gen_rlall.py out of StSlices, StUnion). slices.IndexFunc and slices.DeleteFunc at rows of roles. The statement StateParts: the walk of the law. How two policies differ, in plain Lean. Package delta: without, with, Back, Empty, Same. Two blocks of a call's own that stand whole. Whether two differences are the same (printed by gen_dlsame.py). Whether two rows of texts, two queries, two policies are the same: of the same ones. slices.Equal at rows of texts. slices.Index and slices.Contains at texts (out of SimSat). The reader of package query: fail, want, kind, word. -/
import Derived.Test.YtedkkegjiikcmaaDoorPart3
import Derived.Test.YtedkkegjiikcmaaDoorPart1
import Derived.Shelf.Strings.BuilderK
import Derived.Test.YtedkkegjiikcmaaDoorShelf
import Derived.Shelf.Strings.OnBuilder
import Derived.Test.YtedkkegjiikcmaaDoorPart6
import Derived.Test.YtedkkegjiikcmaaDoorPart5
namespace Go.Proofs.YtedkkegjiikcmaaDoor

def okTok (t : Tok) : Prop := (t.kind = 1 → isP 65 90 t.text = true) ∧ (t.kind = 2 → isP 97 122 t.text = true)
theorem word_isP (lo hi : Int) (c : UInt8) (r : List UInt8) (hb : btw c.toNat lo hi = true) (ha : alnum c = true) (h8 : ¬ 8 < (wordOf (c :: r)).length) : isP lo hi (wordOf (c :: r)) = true := by
  have e : wordOf (c :: r) = c :: wordOf r := by simp [wordOf, List.takeWhile, ha]
  rw [e] at h8 ⊢
  have hall : (wordOf r).all alnum = true := by
    rw [List.all_eq_true]
    intro x hx
    exact List.all_eq_true.1 (List.all_takeWhile (p := alnum) (l := r)) x hx
  simp only [List.length_cons] at h8
  simp only [isP, hb, List.all_cons, ha, hall, List.length_cons, Bool.and_true, Bool.and_self, decide_eq_true_iff]
  omega
theorem ok_other (k : Int) (t : List UInt8) (p : Int) (h1 : ¬ k = 1) (h2 : ¬ k = 2) : okTok ⟨k, t, p⟩ := ⟨fun h => absurd h h1, fun h => absurd h h2⟩
theorem oneTok_cons (c : UInt8) (r : List UInt8) (p : Nat) : oneTok (c :: r) p =
    if c.toNat = 46 then ⟨3, [c], p + 1⟩ else if c.toNat = 38 then ⟨5, [c], p + 1⟩
    else if [60, 45].isPrefixOf (c :: r) then ⟨4, [60, 45], p + 1⟩
    else if btw c.toNat 65 90 then ⟨1, wordOf (c :: r), p + 1⟩ else if btw c.toNat 97 122 then ⟨2, wordOf (c :: r), p + 1⟩ else ⟨0, [c], p + 1⟩ := rfl
theorem oneTok_ok (l : List UInt8) (p : Nat) (h8 : ¬ 8 < (oneTok l p).text.length) : okTok (oneTok l p) := by
  match l, h8 with
  | [], _ => exact ok_other 0 _ _ (by decide) (by decide)
  | c :: r, h8 =>
    rw [oneTok_cons] at h8 ⊢
    by_cases h1 : c.toNat = 46
    · rw [if_pos h1]; exact ok_other 3 _ _ (by decide) (by decide)
    rw [if_neg h1] at h8 ⊢
    by_cases h2 : c.toNat = 38
    · rw [if_pos h2]; exact ok_other 5 _ _ (by decide) (by decide)
    rw [if_neg h2] at h8 ⊢
    by_cases h3 : [60, 45].isPrefixOf (c :: r) = true
    · rw [if_pos h3]; exact ok_other 4 _ _ (by decide) (by decide)
    rw [if_neg h3] at h8 ⊢
    by_cases h4 : btw c.toNat 65 90 = true
    · rw [if_pos h4] at h8 ⊢
      exact ⟨fun _ => word_isP 65 90 c r h4 (by simp [alnum, h4]) h8, fun h => absurd h (show ¬ (1 : Int) = 2 by decide)⟩
    rw [if_neg h4] at h8 ⊢
    by_cases h5 : btw c.toNat 97 122 = true
    · rw [if_pos h5] at h8 ⊢
      exact ⟨fun h => absurd h (show ¬ (2 : Int) = 1 by decide), fun _ => word_isP 97 122 c r h5 (by simp [alnum, h5]) h8⟩
    · rw [if_neg h5]; exact ok_other 0 _ _ (by decide) (by decide)
theorem toks_ok : ∀ (f : Nat) (l : List UInt8) (p : Nat) (acc : List Tok), (∀ t ∈ acc, okTok t) → ∀ t ∈ (toks f l p acc).1, okTok t
  | 0, l, p, acc, h => by
    have : toks 0 l p acc = (acc, 0, 0) := by unfold toks; rfl
    rw [this]; exact h
  | f + 1, [], p, acc, h => by rw [toks_nil]; exact h
  | f + 1, c :: r, p, acc, h => by
    by_cases hc : c.toNat = 32
    · rw [toks_space _ _ _ _ _ hc]; exact toks_ok f r (p + 1) acc h
    by_cases hk : (oneTok (c :: r) p).kind = 0
    · rw [toks_bad _ _ _ _ _ hc hk]; intro t ht; cases ht
    by_cases hl : 8 < (oneTok (c :: r) p).text.length
    · rw [toks_long _ _ _ _ _ hc hk hl]; intro t ht; cases ht
    · rw [toks_go _ _ _ _ _ hc hk hl]
      refine toks_ok f _ _ _ fun t ht => ?_
      rcases List.mem_append.1 ht with h' | h'
      · exact h t h'
      · rw [List.mem_singleton.1 h']; exact oneTok_ok _ _ hl
theorem tokens_ok (l : List UInt8) : ∀ t ∈ (tokens l).1, okTok t := by
  unfold tokens
  split
  · intro t ht; cases ht
  · exact toks_ok _ _ _ _ (fun t ht => by cases ht)

theorem bl_mk (l : List UInt8) : bl ⟨l.toArray⟩ = l := by simp [bl]
def stops (l : List UInt8) : Prop := ∀ c, l.head? = some c → alnum c = false
theorem wordOf_app (w r : List UInt8) (hw : w.all alnum = true) (hr : stops r) : wordOf (w ++ r) = w := by
  unfold wordOf
  rw [List.takeWhile_append_of_pos (by simpa using hw)]
  cases r with
  | nil => simp
  | cons c r =>
    have : alnum c = false := hr c rfl
    simp [List.takeWhile, this]
theorem btw_of {c : UInt8} {lo hi : Int} (h : btw c.toNat lo hi = true) : lo ≤ c.toNat ∧ (c.toNat : Int) ≤ hi := by simpa [btw] using h
theorem toks_big (w r : List UInt8) (f p : Nat) (acc : List Tok) (hw : isP 65 90 w = true) (hr : stops r) : toks (f + 1) (w ++ r) p acc = toks f r (p + w.length) (acc ++ [⟨1, w, p + 1⟩]) := by
  match w, hw with
  | c :: w, hw =>
    simp only [isP, Bool.and_eq_true, decide_eq_true_iff] at hw
    obtain ⟨⟨hl, hb⟩, ha⟩ := hw
    obtain ⟨b1, b2⟩ := btw_of hb
    have e : wordOf (c :: (w ++ r)) = c :: w := by rw [← List.cons_append]; exact wordOf_app _ _ ha hr
    have hp : ¬ [60, 45].isPrefixOf (c :: (w ++ r)) = true := by
      intro x
      have : (60 : UInt8) = c := by simp only [List.isPrefixOf, Bool.and_eq_true, beq_iff_eq] at x; exact x.1
      subst this; exact absurd b1 (by decide)
    have ht : oneTok (c :: (w ++ r)) p = ⟨1, c :: w, p + 1⟩ := by
      rw [oneTok_cons, if_neg (by omega), if_neg (by omega), if_neg hp, if_pos hb, e]
    rw [List.cons_append, toks_go _ _ _ _ _ (by omega) (by rw [ht]; exact (show ¬ (1 : Int) = 0 by decide)) (by rw [ht]; simp only [List.length_cons] at hl ⊢; omega), ht]
    rw [← List.cons_append]
    simp
theorem toks_small (w r : List UInt8) (f p : Nat) (acc : List Tok) (hw : isP 97 122 w = true) (hr : stops r) : toks (f + 1) (w ++ r) p acc = toks f r (p + w.length) (acc ++ [⟨2, w, p + 1⟩]) := by
  match w, hw with
  | c :: w, hw =>
    simp only [isP, Bool.and_eq_true, decide_eq_true_iff] at hw
    obtain ⟨⟨hl, hb⟩, ha⟩ := hw
    obtain ⟨b1, b2⟩ := btw_of hb
    have e : wordOf (c :: (w ++ r)) = c :: w := by rw [← List.cons_append]; exact wordOf_app _ _ ha hr
    have hp : ¬ [60, 45].isPrefixOf (c :: (w ++ r)) = true := by
      intro x
      have : (60 : UInt8) = c := by simp only [List.isPrefixOf, Bool.and_eq_true, beq_iff_eq] at x; exact x.1
      subst this; exact absurd b1 (by decide)
    have hb2 : ¬ btw c.toNat 65 90 = true := fun h => by have := (btw_of h).2; omega
    have ht : oneTok (c :: (w ++ r)) p = ⟨2, c :: w, p + 1⟩ := by
      rw [oneTok_cons, if_neg (by omega), if_neg (by omega), if_neg hp, if_neg hb2, if_pos hb, e]
    rw [List.cons_append, toks_go _ _ _ _ _ (by omega) (by rw [ht]; exact (show ¬ (2 : Int) = 0 by decide)) (by rw [ht]; simp only [List.length_cons] at hl ⊢; omega), ht]
    rw [← List.cons_append]
    simp
theorem toks_dot (r : List UInt8) (f p : Nat) (acc : List Tok) : toks (f + 1) (46 :: r) p acc = toks f r (p + 1) (acc ++ [⟨3, [46], p + 1⟩]) := by
  have ht : oneTok (46 :: r) p = ⟨3, [46], p + 1⟩ := rfl
  rw [toks_go _ _ _ _ _ (by decide) (by rw [ht]; exact (show ¬ (3 : Int) = 0 by decide)) (by rw [ht]; exact (show ¬ 8 < 1 by decide)), ht]; rfl
theorem toks_blank (r : List UInt8) (f p : Nat) (acc : List Tok) : toks (f + 1) (32 :: r) p acc = toks f r (p + 1) acc := toks_space _ _ _ _ _ (by decide)
theorem stops_nil : stops [] := fun c h => by cases h
theorem stops_cons {c : UInt8} (r : List UInt8) (h : alnum c = false) : stops (c :: r) := fun d hd => by cases hd; exact h
theorem isP_len {lo hi : Int} {w : List UInt8} (h : isP lo hi w = true) : 1 ≤ w.length ∧ w.length ≤ 8 := by
  match w, h with
  | c :: w, h =>
    simp only [isP, Bool.and_eq_true, decide_eq_true_iff] at h
    exact ⟨by simp, h.1.1⟩
theorem isP_plain {lo hi : Int} {w : List UInt8} (h : isP lo hi w = true) : ∀ c ∈ w, ¬ c = 35 := by
  match w, h with
  | c :: w, h =>
    simp only [isP, Bool.and_eq_true, decide_eq_true_iff] at h
    intro x hx e
    have := List.all_eq_true.1 h.2 x hx
    rw [e] at this
    exact absurd this (by decide)
theorem bare_same {l : List UInt8} (h : ∀ c ∈ l, ¬ c = 35) : bare l = l := by
  unfold bare
  induction l with
  | nil => rfl
  | cons a r ih =>
    have ha : (!(a == 35)) = true := by simp [h a (by simp)]
    simp only [List.takeWhile, ha]
    rw [ih (fun c hc => h c (by simp [hc]))]
theorem bl_inj2 {l : List UInt8} {a : ByteArray} (h : l = bl a) : (⟨l.toArray⟩ : ByteArray) = a := bl_inj.1 (by rw [bl_mk, h])
theorem ba_bl (a : ByteArray) : (⟨(bl a).toArray⟩ : ByteArray) = a := bl_inj2 rfl
theorem a46 : alnum 46 = false := by decide
theorem a32 : alnum 32 = false := by decide
end Go.Proofs.YtedkkegjiikcmaaDoor
namespace Go.Proofs.YtedkkegjiikcmaaDoor
open Go.RowKit Go.Shelf

theorem sb_size : (Tryd.prog.info? 89).map (·.size) = some 2 := by kernel_rfl
theorem sb_lies : liesAt Tryd.prog Tryd.prog.depth 89 (2 / Tryd.prog.cellsOf 89) 0 89 1 = true := by kernel_rfl
theorem sb_byte : (Tryd.prog.info? 5).map (fun i => (i.zero, i.size, i.bytes)) = some (some (.int .u8 0), 1, 1) := by kernel_rfl

set_option maxRecDepth 100000 in
set_option maxHeartbeats 1000000 in
theorem sb_copyCheck_used (b : Nat) (w : World) (h0 : w.cell? ⟨b, 0, none⟩ = some (.pointer (some ⟨b, 0, none⟩))) :
    Calls Tryd.prog 101 #[.pointer (some ⟨b, 0, none⟩)] w fun e w' => e = .returned (.tuple #[]) ∧ w' = w := by
  obtain ⟨j, hj, _⟩ := Option.map_eq_some_iff.1 sb_size
  go_enter Tryd.func101, Tryd.ntmps101
  go_wp2
  rw [Lib.run_neq_ptr_same w _ Tryd.underlying86 hj]
  go_wp2
  go_end0
  exact ⟨rfl, rfl⟩

set_option maxRecDepth 100000 in
set_option maxHeartbeats 1000000 in
theorem sb_copyCheck_fresh (b : Nat) (w : World) (h0 : w.cell? ⟨b, 0, none⟩ = some (.pointer none)) (hsh : w.shape? b = some (89, 2)) (hfz : w.frozen? ⟨b, 0, none⟩ = false) :
    Calls Tryd.prog 101 #[.pointer (some ⟨b, 0, none⟩)] w fun e w' => e = .returned (.tuple #[]) ∧ w' = w.setCell ⟨b, 0, none⟩ (.pointer (some ⟨b, 0, none⟩)) := by
  obtain ⟨j, hj, hjs⟩ := Option.map_eq_some_iff.1 sb_size
  go_enter Tryd.func101, Tryd.ntmps101
  go_wp2
  rw [Lib.run_to_unsafe w ⟨b, 0, none⟩ Tryd.underlying86 Tryd.underlying116 hj (by rw [hjs]; decide) hsh (Nat.zero_lt_succ 1)]
  simp only [Result.andThen]
  rw [Oper.upon_value]
  go_wp2
  rw [run_callFunc_extern Tryd.func119 (by kernel_rfl) (by kernel_rfl) (by kernel_rfl) (e := Extern.AbiNoEscape.same) (by kernel_rfl)]
  rw [Lib.run_noEscape]
  simp only [Result.andThen]
  rw [Oper.upon_value]
  go_wp2
  rw [Lib.run_from_unsafe w ⟨b, 0, none⟩ Tryd.underlying116 Tryd.underlying86 hj hsh sb_lies]
  simp only [Result.andThen]
  rw [Oper.upon_value]
  go_wp2
  go_end0
  exact ⟨rfl, rfl⟩

abbrev SbAt (B b : Nat) (l : List UInt8) (w : World) : Prop := Lib.IsBuilderF 89 5 B b (Lib.byteCells l) w

theorem sb_copyCheck (B b : Nat) (bs : List Value) (w : World) (h : Lib.IsBuilderF 89 5 B b bs w) :
    Calls Tryd.prog 101 #[.pointer (some ⟨b, 0, none⟩)] w fun e w' => e = .returned (.tuple #[]) ∧ (Lib.BuilderAtF 89 5 B b (.pointer (some ⟨b, 0, none⟩)) bs w' ∧ Below B w w' ∧ Lib.OthersKept 5 (some b) w w') := by
  rcases h with h | h
  · refine (sb_copyCheck_fresh b w h.cell0 h.shape h.frozen0).mono ?_
    rintro e w' ⟨rfl, rfl⟩
    exact ⟨rfl, h.used _, (Below.refl B w).setCell (p := ⟨b, 0, none⟩) h.1 _, (Lib.OthersKept.refl _ _ w).setCell ⟨b, 0, none⟩ rfl _⟩
  · refine (sb_copyCheck_used b w h.cell0).mono ?_
    rintro e w' ⟨rfl, rfl⟩
    exact ⟨rfl, h, Below.refl B _, Lib.OthersKept.refl _ _ _⟩

theorem strCells_eq (s : ByteArray) : Lib.strCells s = Lib.byteCells (bl s) := rfl

set_option maxHeartbeats 2000000 in
set_option maxRecDepth 100000 in
theorem sb_WriteString (B b : Nat) (l : List UInt8) (s : ByteArray) (w : World) (h : SbAt B b l w) (hlen : l.length + s.size ≤ 140737488355328) (hBw : B ≤ w.heap.size) :
    Calls Tryd.prog 77 #[.pointer (some ⟨b, 0, none⟩), .string s] w fun e w' => e = .returned (.tuple #[.int .i64 s.size, .nilIface]) ∧ (SbAt B b (l ++ bl s) w' ∧ Below B w w' ∧ Lib.OthersKept 5 (some b) w w') := by
  obtain ⟨i0, hi, hz0, hz1, hz2⟩ := info_parts sb_byte
  have hlen' : (Lib.byteCells l).length + s.size ≤ 140737488355328 := by simpa [Lib.byteCells] using hlen
  have H := Lib.hid h
  have HL := Lib.hid hlen'
  clear h hlen hlen'
  go_enter Tryd.func77, Tryd.ntmps77
  go_wp2_with (go_at_call 101; refine (sb_copyCheck B b _ _ H.out).mono ?_)
  rintro e w1 ⟨rfl, h1, hb1, hk1⟩
  obtain ⟨hB, v, hbk, hown, hne⟩ := h1
  have c0 : w1.cell? ⟨b, 0, none⟩ = some (.pointer (some ⟨b, 0, none⟩)) := by rw [Lib.cell_of_heap hbk]; rfl
  have c1 : w1.cell? ⟨b, 1, none⟩ = some v := by rw [Lib.cell_of_heap hbk]; rfl
  go_wp2_with (at_builtin; refine Lib.wpList_append_own_stringF _ rfl _ _ 87 9 rfl B 5 i0 Tryd.underlying87 Tryd.underlying9 hi hz0 hz1 hz2 _ _ _ rfl hown s rfl ?c3 ?c4 ?c5 ?_)
  case c3 => have := HL.out; unfold maxLen; omega
  case c4 => exact HL.out
  case c5 => have := hb1.size; omega
  intro v' w2 hown' hgrow _
  have hlt : b < w1.heap.size := by
    rcases Nat.lt_or_ge b w1.heap.size with h' | h'
    · exact h'
    · simp [Array.getElem?_eq_none h'] at hbk
  have hb2 : w2.heap[b]? = some (.cells #[.pointer (some ⟨b, 0, none⟩), v] 89 (0, 0)) := by
    rw [hgrow.block b hlt (fun e => hne e.symm)]
    exact hbk
  have d0 : w2.cell? ⟨b, 0, none⟩ = some (.pointer (some ⟨b, 0, none⟩)) := by rw [Lib.cell_of_heap hb2]; rfl
  have d1 : w2.cell? ⟨b, 1, none⟩ = some v := by rw [Lib.cell_of_heap hb2]; rfl
  have f1 : w2.frozen? ⟨b, 1, none⟩ = false := Lib.frozen_of_heap hb2 1
  obtain ⟨ao, n', cap, rfl⟩ : ∃ ao n' cap, v' = .slice ao n' cap := by
    rcases hown'.2 with ⟨hv, _⟩ | ⟨g, cap, cur, fz, hv, _⟩
    · exact ⟨_, _, _, hv⟩
    · exact ⟨_, _, _, hv⟩
  go_wp2
  go_ret2
  refine ⟨rfl, ?_, ?_, (hk1.grown hgrow (Lib.ownsRowF_kind hown)).setCell ⟨b, 1, none⟩ rfl _⟩
  · have e1 : Lib.byteCells (l ++ bl s) = Lib.byteCells l ++ Lib.strCells s := by rw [strCells_eq]; simp [Lib.byteCells]
    unfold SbAt
    rw [e1]
    exact .inr (Lib.BuilderAtF.put (T := 89) (e := 5) hB hb2 (bs' := Lib.byteCells l ++ Lib.strCells s) (by simpa [Lib.strCells_length] using hown') (by decide))
  · exact (hb1.grown hgrow (by have := hb1.size; omega) (fun k hk => (hown.lt k hk).1)).setCell (p := ⟨b, 1, none⟩) hB _
end Go.Proofs.YtedkkegjiikcmaaDoor
namespace Go.Proofs.YtedkkegjiikcmaaDoor
open Go.RowKit Go.Shelf

set_option maxHeartbeats 2000000 in
set_option maxRecDepth 1000000 in
theorem sb_grow_fresh (B b n : Nat) (w : World) (hB : B ≤ b) (hbk : w.heap[b]? = some (.cells #[.pointer (some ⟨b, 0, none⟩), .slice none 0 0] 89 (0, 0))) (hBw : B ≤ w.heap.size) (hn : n ≤ 281474976710656) :
    Calls Tryd.prog 112 #[.pointer (some ⟨b, 0, none⟩), .int .i64 n] w fun e w' => e = .returned (.tuple #[]) ∧ (Lib.BuilderAt 89 5 B b (.pointer (some ⟨b, 0, none⟩)) [] w' ∧ Below B w w') := by
  obtain ⟨i0, hi, hz0, hz1, hz2⟩ := info_parts sb_byte
  obtain ⟨cs, hrun, hle, hmax⟩ := Lib.run_makeNoZero (P := Tryd.prog) w.drew #[3] 87 5 Tryd.underlying87 n hn
  have hw : IntKind.i64.wrap (IntKind.i64.wrap 0 + (n : Int)) = n := by
    rw [IntKind.wrap_i64, IntKind.wrap_i64]
    omega
  have hcall : (callFunc 127 #[.int .i64 (IntKind.i64.wrap (IntKind.i64.wrap 0 + (n : Int)))]).run Tryd.prog w.drew = .ok (.value (.slice (some ⟨w.drew.heap.size, 0, none⟩) n cs.size)) (w.drew.drew.drew.alloc (.cells cs 5)) := by
    rw [hw, run_callFunc_extern Tryd.func127 (by kernel_rfl) (by kernel_rfl) (by kernel_rfl) (e := Extern.BytealgMakeNoZero.makeNoZero #[3] #[87]) (by kernel_rfl), hrun]
    rfl
  have c1 : w.drew.cell? ⟨b, 1, none⟩ = some (.slice none 0 0) := by
    have : w.drew.heap[b]? = _ := hbk
    rw [Lib.cell_of_heap this]; rfl
  have c2 : (w.alloc (.cells cs 5)).cell? ⟨b, 1, none⟩ = some (.slice none 0 0) := by
    have hlt : b < w.heap.size := by
      rcases Nat.lt_or_ge b w.heap.size with h' | h'
      · exact h'
      · simp [Array.getElem?_eq_none h'] at hbk
    have : (w.alloc (.cells cs 5)).heap[b]? = _ := (Lib.alloc_old w _ b hlt).trans hbk
    rw [Lib.cell_of_heap this]; rfl
  have f2 : (w.alloc (.cells cs 5)).frozen? ⟨b, 1, none⟩ = false := by
    have hlt : b < w.heap.size := by
      rcases Nat.lt_or_ge b w.heap.size with h' | h'
      · exact h'
      · simp [Array.getElem?_eq_none h'] at hbk
    exact Lib.frozen_of_heap ((Lib.alloc_old w _ b hlt).trans hbk) 1
  have hcopy : ∀ W : World, (Builtin.copy_ #[87, 87] 3 #[.slice (some ⟨w.heap.size, 0, none⟩) 0 cs.size, .slice none 0 0]).run Tryd.prog W = .ok (goInt 0) W :=
    fun W => run_copy_none W 87 87 3 5 _ _ 0 cs.size 0 0 Tryd.underlying87 (by rw [hi]; exact congrArg some hz1) rfl
  clear hw
  go_enter Tryd.func112, Tryd.ntmps112
  go_wp2
  have hfin := Lib.grown_fresh (T := 89) (e := 5) (cs := cs) hB hbk hBw (hmax (by unfold maxLen; omega)) (by decide)
  go_region
  all_goals (go_wp2; go_end0; exact ⟨rfl, hfin⟩)

set_option maxHeartbeats 2000000 in
set_option maxRecDepth 1000000 in
theorem sb_Grow_fresh (B b n : Nat) (w : World) (hB : B ≤ b) (hbk : w.heap[b]? = some (.cells #[.pointer none, .slice none 0 0] 89 (0, 0))) (hBw : B ≤ w.heap.size) (hn : n ≤ 281474976710656) :
    Calls Tryd.prog 90 #[.pointer (some ⟨b, 0, none⟩), .int .i64 n] w fun e w' => e = .returned (.tuple #[]) ∧ (Lib.BuilderAt 89 5 B b (.pointer (some ⟨b, 0, none⟩)) [] w' ∧ Below B w w') := by
  have hbk1 : (w.setCell ⟨b, 0, none⟩ (.pointer (some ⟨b, 0, none⟩))).heap[b]? = some (.cells #[.pointer (some ⟨b, 0, none⟩), .slice none 0 0] 89 (0, 0)) := by
    simp [World.setCell, Array.getElem?_modify, hbk]
  have c1 : (w.setCell ⟨b, 0, none⟩ (.pointer (some ⟨b, 0, none⟩))).cell? ⟨b, 1, none⟩ = some (.slice none 0 0) := by rw [Lib.cell_of_heap hbk1]; rfl
  have hb1 : Below B w (w.setCell ⟨b, 0, none⟩ (.pointer (some ⟨b, 0, none⟩))) := (Below.refl B w).setCell (p := ⟨b, 0, none⟩) hB _
  go_enter Tryd.func90, Tryd.ntmps90
  have hU : Lib.BuilderAt 89 5 B b (.pointer (some ⟨b, 0, none⟩)) [] (w.setCell ⟨b, 0, none⟩ (.pointer (some ⟨b, 0, none⟩))) := ⟨hB, .slice none 0 0, hbk1, World.ownsRow_nil _ _ _ _, by simp [Value.ownBlock]⟩
  have c1' : (w.setCell ⟨b, 0, none⟩ (.pointer (some ⟨b, 0, none⟩))).drew.cell? ⟨b, 1, none⟩ = some (.slice none 0 0) := c1
  go_wp2_with (go_at_call 101; refine (sb_copyCheck_fresh b w (by rw [Lib.cell_of_heap hbk]; rfl) (by simp [World.shape?, hbk]) (Lib.frozen_of_heap hbk 0)).mono ?_; rintro e w' ⟨rfl, rfl⟩)
  go_region
  all_goals go_wp2_with (go_at_call 112; refine (sb_grow_fresh B b n (w.setCell ⟨b, 0, none⟩ (.pointer (some ⟨b, 0, none⟩))).drew hB hbk1 (by simpa [World.setCell, World.drew, -World.drew_eq] using hBw) hn).mono ?_; rintro e w' ⟨rfl, h1, h2⟩)
  all_goals first
    | (go_end0; exact ⟨rfl, h1, hb1.drew.trans h2⟩)
    | (go_end0; exact ⟨rfl, hU.drew, hb1.drew⟩)

def joinB (xs : List ByteArray) (sep : ByteArray) : ByteArray := ⟨(Lib.join (xs.map bl) (bl sep)).toArray⟩
set_option maxRecDepth 100000 in
set_option maxHeartbeats 1000000 in
theorem str_Join_none (a : Option Addr) (c : Nat) (sep : ByteArray) (w : World) :
    Calls Tryd.prog 60 #[.slice a 0 c, .string sep] w fun e w' => e = .returned (.string ⟨#[]⟩) ∧ w' = w := by
  go_enter Tryd.func60, Tryd.ntmps60
  go_wp2
  go_ret
  exact ⟨rfl, rfl⟩
set_option maxRecDepth 100000 in
set_option maxHeartbeats 1000000 in
theorem str_Join_one (bk o c : Nat) (x sep : ByteArray) (w : World) (hc : w.cell? ⟨bk, o, none⟩ = some (.string x)) :
    Calls Tryd.prog 60 #[.slice (some ⟨bk, o, none⟩) 1 c, .string sep] w fun e w' => e = .returned (.string x) ∧ w' = w := by
  go_enter Tryd.func60, Tryd.ntmps60
  go_wp2
  go_ret
  exact ⟨rfl, rfl⟩
set_option maxHeartbeats 8000000 in
set_option maxRecDepth 100000 in
theorem str_Join_many (bk o c : Nat) (xs : List ByteArray) (sep : ByteArray) (w : World)
    (hcells : ∀ (j : Nat) x, xs[j]? = some x → w.cell? ⟨bk, o + j, none⟩ = some (.string x))
    (hbk : bk < w.heap.size) (h2 : 2 ≤ xs.length) (hN : xs.length ≤ 140737488355328) (hcap : xs.length ≤ c)
    (hlen : (Lib.join (xs.map (·.data.toList)) sep.data.toList).length ≤ 140737488355328) :
    Calls Tryd.prog 60 #[.slice (some ⟨bk, o, none⟩) xs.length c, .string sep] w fun e w' => e = .returned (.string ⟨(Lib.join (xs.map (·.data.toList)) sep.data.toList).toArray⟩) ∧ Below w.heap.size w w' := by
  have HC := Any.hidJ hcells
  clear hcells
  obtain ⟨x0, r, hxs⟩ : ∃ x0 r, xs = x0 :: r := by
    cases xs with
    | nil => simp at h2
    | cons a t => exact ⟨a, t, rfl⟩
  have hjl : sep.size * (xs.length - 1) + Lib.lens (xs.map (·.data.toList)) ≤ 140737488355328 := by
    have := Lib.join_length x0.data.toList (r.map (·.data.toList)) sep.data.toList
    rw [hxs] at hlen ⊢
    simp only [List.map_cons] at hlen ⊢
    rw [this, List.length_map] at hlen
    rw [Lib.size_eq, List.length_cons, Nat.add_sub_cancel]
    exact hlen
  have hmul : sep.size * (xs.length - 1) ≤ 140737488355328 := by omega
  generalize hM : sep.size * (xs.length - 1) = M at hjl hmul
  have hcast : ((xs.length : Int) - 1) = ((xs.length - 1 : Nat) : Int) := by omega
  have hlt : sep.size < 9223372036854775807 / (xs.length - 1) := by
    have : sep.size + 1 ≤ 9223372036854775807 / (xs.length - 1) := by
      rw [Nat.le_div_iff_mul_le (by omega), Nat.add_mul, hM]
      omega
    omega
  have hdv : ¬ (9223372036854775807 / ((xs.length : Int) - 1) ≤ (sep.size : Int)) := by
    have e : (9223372036854775807 : Int) / ((xs.length - 1 : Nat) : Int) = ((9223372036854775807 / (xs.length - 1) : Nat) : Int) := IntWalk.up_div (x := 9223372036854775807) rfl rfl
    rw [hcast, e]
    generalize 9223372036854775807 / (xs.length - 1) = q at hlt
    omega
  have hprod : wrap64 ((sep.size : Int) * ((xs.length : Int) - 1)) = (M : Int) := by
    have e : (sep.size : Int) * ((xs.length - 1 : Nat) : Int) = ((sep.size * (xs.length - 1) : Nat) : Int) := IntWalk.up_mul rfl rfl
    rw [hcast, e, hM]
    exact IntWalk.wrap64_in _ ⟨by omega, by omega⟩
  have hM0 : sep.size = 0 → M = 0 := fun h => by rw [← hM, h, Nat.zero_mul]
  clear hlt hcast
  have hne0 : ((xs.length : Int) == 0) = false := beq_eq_false_iff_ne.2 (by omega)
  have hne1 : ((xs.length : Int) == 1) = false := beq_eq_false_iff_ne.2 (by omega)
  have Hxs := Any.hidJ hxs
  have Hlen := Any.hidJ hlen
  clear hxs hlen
  go_enter Tryd.func60, Tryd.ntmps60
  go_wp2_with fail
  all_goals (
    go_loop [5, 41] (fun n i => ∃ k : Nat, k ≤ xs.length ∧ i = .int .i64 k ∧ n = .int .i64 ((M + Lib.lens ((xs.map (·.data.toList)).take k) : Nat) : Int)) (fun _ i => xs.length - (intOf i).toNat)
    case atStart => exact ⟨0, Nat.zero_le _, rfl, by first | (simp [Lib.lens]; done) | (have := hM0 (by omega); simp [Lib.lens, this])⟩
    case round =>
      obtain ⟨k, hk, rfl, rfl⟩ := hrel
      by_cases hkn : k < xs.length
      · obtain ⟨x, hx⟩ : ∃ x, xs[k]? = some x := ⟨xs[k], List.getElem?_eq_getElem hkn⟩
        have hc := HC.out k x hx
        have hstep := Lib.lens_take_succ (xs.map (·.data.toList)) k x.data.toList (by simp [hx])
        have hbound : Lib.lens ((xs.map (·.data.toList)).take (k + 1)) ≤ Lib.lens (xs.map (·.data.toList)) := Lib.lens_take_le _ _
        rw [← Lib.size_eq] at hstep
        generalize hA1 : Lib.lens ((xs.map (·.data.toList)).take (k + 1)) = A1 at hstep hbound
        generalize Lib.lens ((xs.map (·.data.toList)).take k) = A0 at hstep
        have HA1 := Any.hidJ hA1
        clear hA1
        go_wp2
        exact ⟨⟨k + 1, by omega, by go_num, by rw [HA1.out]; refine congrArg _ ?_; omega⟩, by simp [intOf]; omega⟩
      · have hke : k = xs.length := by omega
        subst hke
        have hall : (xs.map (·.data.toList)).take xs.length = xs.map (·.data.toList) := List.take_of_length_le (by simp)
        rw [hall]
        generalize hT : Lib.lens (xs.map (·.data.toList)) = T at hjl
        have HT := Any.hidJ hT
        clear hT hall
        go_wp2_with fail
        have hMT : ((M : Int) + (T : Int)) = ((M + T : Nat) : Int) := by omega
        rw [hMT]
        refine (sb_Grow_fresh w.heap.size w.heap.size (M + T) _ (Nat.le_refl _) (heap_alloc_new w _) (by simp) (by omega)).mono ?_
        rintro e w1 ⟨rfl, h1, hb1⟩
        have hb1' : Below w.heap.size w w1 := ((Below.refl w.heap.size w).alloc (Nat.le_refl _) _).trans hb1
        have hx0 : xs[0]? = some x0 := by rw [Hxs.out]; rfl
        have hc0 : w1.cell? ⟨bk, o, none⟩ = some (.string x0) := by
          rw [hb1'.cell (p := ⟨bk, o, none⟩) hbk]
          exact HC.out 0 x0 hx0
        have H1 := Any.hidJ (Or.inr (Lib.BuilderAtF.of h1) : SbAt w.heap.size w.heap.size [] w1)
        have Hb1 := Any.hidJ hb1'
        have hBw1 : w.heap.size ≤ w1.heap.size := hb1'.size
        clear h1 hb1 hb1' hMT
        have hwhole : Lib.join (xs.map (·.data.toList)) sep.data.toList = x0.data.toList ++ Lib.joinTail sep.data.toList (r.map (·.data.toList)) := by
          rw [Hxs.out, List.map_cons, Lib.join_cons]
        have hCle : ∀ k, (x0.data.toList ++ Lib.joinTail sep.data.toList ((r.map (·.data.toList)).take k)).length ≤ 140737488355328 := fun k => by
          have h1 := Hlen.out
          rw [hwhole, List.length_append] at h1
          have h2 := Lib.joinTail_take_le sep.data.toList (r.map (·.data.toList)) k
          rw [List.length_append]
          omega
        have HCle := Any.hidJ hCle
        have Hwhole := Any.hidJ hwhole
        clear hCle hwhole
        go_wp2_with fail
        refine (sb_WriteString w.heap.size w.heap.size [] x0 w1 H1.out (by have := HCle.out 0; simp [Lib.joinTail] at this ⊢; omega) hBw1).mono ?_
        rintro e w2 ⟨rfl, h2', hb2, _⟩
        have hstart : ([] : List UInt8) ++ bl x0 = x0.data.toList ++ Lib.joinTail sep.data.toList ((r.map (·.data.toList)).take 0) := by
          simp [Lib.joinTail, bl]
        rw [hstart] at h2'
        have H2 := Any.hidJ h2'
        have Hb2 := Any.hidJ (Hb1.out.trans hb2)
        clear h2' hb2 hstart
        have hrl : r.length = xs.length - 1 := by rw [Hxs.out]; simp
        go_wp2_with fail
        go_loopw [65] (fun i wr => ∃ k : Nat, k ≤ r.length ∧ i = .int .i64 k ∧ Hid (SbAt w.heap.size w.heap.size (x0.data.toList ++ Lib.joinTail sep.data.toList ((r.map (·.data.toList)).take k)) wr) ∧ Hid (Below w.heap.size w wr)) (fun i _ => r.length - (intOf i).toNat)
        case atStart => exact ⟨0, Nat.zero_le _, rfl, H2, Hb2⟩
        case round =>
          obtain ⟨k, hk', rfl, HB, HW⟩ := hrel
          by_cases hkr : k < r.length
          · obtain ⟨y, hy⟩ : ∃ y, r[k]? = some y := ⟨r[k], List.getElem?_eq_getElem hkr⟩
            have hxy : xs[k + 1]? = some y := by rw [Hxs.out]; simpa using hy
            have hcy : wr.cell? ⟨bk, o + 1 + k, none⟩ = some (.string y) := by
              rw [HW.out.cell (p := ⟨bk, o + 1 + k, none⟩) hbk, show o + 1 + k = o + (k + 1) by omega]
              exact HC.out (k + 1) y hxy
            have hBw : w.heap.size ≤ wr.heap.size := HW.out.size
            have hnext : x0.data.toList ++ Lib.joinTail sep.data.toList ((r.map (·.data.toList)).take k) ++ bl sep ++ bl y = x0.data.toList ++ Lib.joinTail sep.data.toList ((r.map (·.data.toList)).take (k + 1)) := by
              rw [Lib.joinTail_take_succ sep.data.toList (r.map (·.data.toList)) k y.data.toList (by simp [hy])]
              simp only [bl, List.append_assoc]
            have hl1 := HCle.out (k + 1)
            rw [Lib.joinTail_take_succ sep.data.toList (r.map (·.data.toList)) k y.data.toList (by simp [hy])] at hl1
            simp only [List.length_append, ← Lib.size_eq] at hl1
            have hl0 : (x0.data.toList ++ Lib.joinTail sep.data.toList ((r.map (·.data.toList)).take k)).length = x0.size + (Lib.joinTail sep.data.toList ((r.map (·.data.toList)).take k)).length := by
              rw [List.length_append, ← Lib.size_eq]
            have hl2 : (x0.data.toList ++ Lib.joinTail sep.data.toList ((r.map (·.data.toList)).take k) ++ bl sep).length = x0.size + (Lib.joinTail sep.data.toList ((r.map (·.data.toList)).take k)).length + sep.size := by
              rw [List.length_append, hl0, Lib.size_eq sep]
            generalize (Lib.joinTail sep.data.toList ((r.map (·.data.toList)).take k)).length = J at hl0 hl1 hl2
            have Hn := Any.hidJ hnext
            have HL0 := Any.hidJ hl0
            have HL2 := Any.hidJ hl2
            clear hnext hy hxy hl0 hl2
            go_wp2_with fail
            refine (sb_WriteString w.heap.size w.heap.size _ sep wr HB.out (by rw [HL0.out]; omega) hBw).mono ?_
            rintro e w3 ⟨rfl, h3, hb3, _⟩
            have hBw3 : w.heap.size ≤ w3.heap.size := Nat.le_trans hBw hb3.size
            have H3 := Any.hidJ h3
            have Hb3 := Any.hidJ hb3
            clear h3 hb3
            go_wp2_with fail
            refine (sb_WriteString w.heap.size w.heap.size _ y w3 H3.out (by rw [HL2.out]; omega) hBw3).mono ?_
            rintro e w4 ⟨rfl, h4, hb4, _⟩
            rw [Hn.out] at h4
            have H4 := Any.hidJ h4
            have Hb4 := Any.hidJ ((HW.out.trans Hb3.out).trans hb4)
            clear h4 hb4
            go_wp2
            exact ⟨⟨k + 1, by omega, by go_num, H4, Hb4⟩, by simp [intOf]; omega⟩
          · have hke : k = r.length := by omega
            subst hke
            have hfull : (r.map (·.data.toList)).take r.length = r.map (·.data.toList) := List.take_of_length_le (by simp)
            have hB' := HB.out
            rw [hfull, ← Hwhole.out] at hB'
            have hBw : w.heap.size ≤ wr.heap.size := HW.out.size
            go_wp2_with fail
            refine (Tryd.Builder_String_any_f w.heap.size w.heap.size _ wr hB' hBw).mono ?_
            rintro e w5 ⟨rfl, _, hb5⟩
            have Hb5 := Any.hidJ (HW.out.trans hb5)
            clear hb5 hB'
            go_wp2
            go_ret
            exact ⟨rfl, Hb5.out⟩)
theorem joinB_one (x sep : ByteArray) : joinB [x] sep = x := by unfold joinB; rw [List.map_cons, List.map_nil, Lib.join_one]
end Go.Proofs.YtedkkegjiikcmaaDoor
namespace Go.Proofs.YtedkkegjiikcmaaDoor
open Go.RowKit

def wordsL (k : Int) : List ByteArray := if k = 1 then [wHas] else if k = 2 then [wHave] else if k = 3 then [wWithin] else if k = 4 then [wBe, wEmpty] else if k = 5 then [wApart] else if k = 6 then [wIn] else []
def headW (k : Int) : ByteArray := if univB k = true then wAlways else wCan
def partsQ (q : Qd) : List ByteArray := headW q.k :: roleT q.a :: (wordsL q.k ++ ((if secB q.k = true then [roleT q.b] else []) ++ q.us))
def TokL (l : List UInt8) (ts : List (Int × List UInt8)) : Prop := ∀ (f p : Nat) (acc : List Tok), l.length ≤ f → ∃ us : List Tok, toks f l p acc = (acc ++ us, 0, 0) ∧ us.map (fun t => (t.kind, t.text)) = ts
theorem tokL_nil : TokL [] [] := fun f p acc _ => ⟨[], by rw [toks_nil, List.append_nil], rfl⟩
theorem tokL_step {l r : List UInt8} {ts : List (Int × List UInt8)} (n : Nat) (t : Nat → Tok) (hk : ∀ p, ((t p).kind, (t p).text) = ((t 0).kind, (t 0).text)) (hn : l.length = n + 1 + r.length) (h : ∀ f p acc, toks (f + 1) l p acc = toks f r (p + n + 1) (acc ++ [t p])) (hr : TokL r ts) : TokL l (((t 0).kind, (t 0).text) :: ts) := fun f p acc hf => by
  obtain ⟨f, rfl⟩ : ∃ g, f = g + 1 := ⟨f - 1, by omega⟩
  obtain ⟨us, h1, h2⟩ := hr f (p + n + 1) (acc ++ [t p]) (by omega)
  exact ⟨t p :: us, by rw [h, h1, List.append_assoc]; rfl, by rw [List.map_cons, h2, hk p]⟩
theorem tokL_big {w r : List UInt8} {ts : List (Int × List UInt8)} (hw : isP 65 90 w = true) (hs : stops r) (hr : TokL r ts) : TokL (w ++ r) ((1, w) :: ts) := by
  have hl := (isP_len hw).1
  exact tokL_step (w.length - 1) (fun p => ⟨1, w, p + 1⟩) (fun _ => rfl) (by rw [List.length_append]; omega) (fun f p acc => by rw [toks_big w r f p acc hw hs]; congr 1; omega) hr
theorem tokL_small {w r : List UInt8} {ts : List (Int × List UInt8)} (hw : isP 97 122 w = true) (hs : stops r) (hr : TokL r ts) : TokL (w ++ r) ((2, w) :: ts) := by
  have hl := (isP_len hw).1
  exact tokL_step (w.length - 1) (fun p => ⟨2, w, p + 1⟩) (fun _ => rfl) (by rw [List.length_append]; omega) (fun f p acc => by rw [toks_small w r f p acc hw hs]; congr 1; omega) hr
theorem tokL_dot {r : List UInt8} {ts : List (Int × List UInt8)} (hr : TokL r ts) : TokL (46 :: r) ((3, [46]) :: ts) :=
  tokL_step 0 (fun p => ⟨3, [46], p + 1⟩) (fun _ => rfl) (by rw [List.length_cons]; omega) (fun f p acc => by rw [toks_dot]) hr
theorem tokL_blank {r : List UInt8} {ts : List (Int × List UInt8)} (hr : TokL r ts) : TokL (32 :: r) ts := fun f p acc hf => by
  obtain ⟨f, rfl⟩ : ∃ g, f = g + 1 := ⟨f - 1, by rw [List.length_cons] at hf; omega⟩
  obtain ⟨us, h1, h2⟩ := hr f (p + 1) acc (by rw [List.length_cons] at hf; omega)
  exact ⟨us, by rw [toks_blank, h1], h2⟩
theorem tokL_role {x : Rl} {r : List UInt8} {ts : List (Int × List UInt8)} (h : isRole x = true) (hs : stops r) (hr : TokL r ts) : TokL (bl (roleT x) ++ r) ((1, bl x.o) :: (3, [46]) :: (2, bl x.n) :: ts) := by
  simp only [isRole, Bool.and_eq_true] at h
  have e : bl (roleT x) ++ r = bl x.o ++ 46 :: (bl x.n ++ r) := by simp [roleT, bl]
  rw [e]
  exact tokL_big h.1 (stops_cons _ a46) (tokL_dot (tokL_small h.2 hs hr))
def tailL (xs : List ByteArray) : List UInt8 := (xs.map (fun x => 32 :: bl x)).flatten
theorem tailL_stops (xs : List ByteArray) : stops (tailL xs) := by
  cases xs with
  | nil => exact stops_nil
  | cons x r => exact stops_cons _ a32
theorem tailL_app (xs ys : List ByteArray) : tailL (xs ++ ys) = tailL xs ++ tailL ys := by simp [tailL]
theorem tailL_cons (x : ByteArray) (xs : List ByteArray) : tailL (x :: xs) = 32 :: (bl x ++ tailL xs) := by simp [tailL]
theorem tokL_us : ∀ (us : List ByteArray), (∀ x ∈ us, isP 65 90 (bl x) = true) → TokL (tailL us) (us.map (fun x => (1, bl x)))
  | [], _ => tokL_nil
  | x :: r, h => by
    rw [tailL_cons]
    exact tokL_blank (tokL_big (h x (by simp)) (tailL_stops r) (tokL_us r (fun y hy => h y (by simp [hy]))))
theorem word_isP' : ∀ x ∈ [wAlways, wCan, wHas, wHave, wWithin, wBe, wEmpty, wApart, wIn], isP 97 122 (bl x) = true := by decide
theorem tokL_words {k : Int} {r : List ByteArray} {ts : List (Int × List UInt8)} (hr : TokL (tailL r) ts) : TokL (tailL (wordsL k ++ r)) ((wordsL k).map (fun x => (2, bl x)) ++ ts) := by
  have one : ∀ x ∈ [wAlways, wCan, wHas, wHave, wWithin, wBe, wEmpty, wApart, wIn], ∀ (r : List ByteArray) ts, TokL (tailL r) ts → TokL (tailL (x :: r)) ((2, bl x) :: ts) := fun x hx r ts h => by
    rw [tailL_cons]
    exact tokL_blank (tokL_small (word_isP' x hx) (tailL_stops r) h)
  unfold wordsL
  split
  · exact one _ (by simp) _ _ hr
  split
  · exact one _ (by simp) _ _ hr
  split
  · exact one _ (by simp) _ _ hr
  split
  · exact one _ (by simp) _ _ (one _ (by simp) _ _ hr)
  split
  · exact one _ (by simp) _ _ hr
  split
  · exact one _ (by simp) _ _ hr
  · exact hr
def lineQ (q : Qd) : List UInt8 := bl (headW q.k) ++ tailL (roleT q.a :: (wordsL q.k ++ ((if secB q.k = true then [roleT q.b] else []) ++ q.us)))
def tokQ (q : Qd) : List (Int × List UInt8) := (2, bl (headW q.k)) :: (1, bl q.a.o) :: (3, [46]) :: (2, bl q.a.n) :: ((wordsL q.k).map (fun x => (2, bl x)) ++ ((if secB q.k = true then [(1, bl q.b.o), (3, [46]), (2, bl q.b.n)] else []) ++ q.us.map (fun x => (1, bl x))))
theorem tokL_line (q : Qd) (ha : isRole q.a = true) (hb : secB q.k = true → isRole q.b = true) (hu : ∀ x ∈ q.us, isP 65 90 (bl x) = true) : TokL (lineQ q) (tokQ q) := by
  unfold lineQ tokQ
  refine tokL_small (by unfold headW; split <;> decide) (tailL_stops _) ?_
  rw [tailL_cons]
  refine tokL_blank (tokL_role ha (tailL_stops _) (tokL_words ?_))
  by_cases hs : secB q.k = true
  · rw [if_pos hs, if_pos hs]
    show TokL (tailL (roleT q.b :: q.us)) _
    rw [tailL_cons]
    exact tokL_blank (tokL_role (hb hs) (tailL_stops _) (tokL_us _ hu))
  · rw [if_neg hs, if_neg hs]
    exact tokL_us _ hu
theorem parts_line (q : Qd) : bl (joinB (partsQ q) ⟨#[32]⟩) = lineQ q := by
  unfold joinB partsQ lineQ tailL
  rw [List.map_cons, Lib.join_cons, bl_mk]
  unfold Lib.joinTail
  rw [List.map_map]
  rfl
end Go.Proofs.YtedkkegjiikcmaaDoor
namespace Go.Proofs.YtedkkegjiikcmaaDoor
open Go.RowKit

theorem insS_last {l : List ByteArray} {x : ByteArray} (h : AscB (l ++ [x])) : insSB l x = l ++ [x] :=
  asc_uniqueB _ _ (insS_ascB (List.Pairwise.sublist (List.sublist_append_left _ _) h) _) h (fun y => by rw [insS_memB]; simp)
structure GoodQ (q : Qd) : Prop where
  lo : 1 ≤ q.k
  hi : q.k ≤ 6
  a : isRole q.a = true
  p : ∀ x ∈ q.us, isP 65 90 (bl x) = true
  asc : AscB q.us
  few : q.us.length ≤ 12
  two : 5 ≤ q.k → isRole q.b = true
  one : ¬ 5 ≤ q.k → q.b = noR
  none : 4 ≤ q.k → q.us = []
  some : q.k ≤ 2 → ¬ q.us.length = 0
theorem rest_us (k : Int) (a b : Rl) (e : Int) (hk : k ≤ 3) : ∀ (us : List ByteArray) (l : List Tok) (acc : List ByteArray), l.map (fun t => (t.kind, t.text)) = us.map (fun x => (1, bl x)) → AscB (acc ++ us) → (acc ++ us).length ≤ 12 → (k ≤ 2 → ¬ (acc ++ us).length = 0) →
    restQ k ⟨k, a, b, acc⟩ e l = (⟨k, a, b, acc ++ us⟩, 0, 0)
  | [], l, acc, hl, _, _, hs => by
    obtain rfl : l = [] := by simpa using hl
    unfold restQ
    rw [if_neg (fun h => hs h.1 (by rw [List.append_nil]; exact h.2)), List.append_nil]
  | x :: us, l, acc, hl, ha, hn, hs => by
    match l, hl with
    | t :: l, hl =>
      simp only [List.map_cons, List.cons.injEq, Prod.mk.injEq] at hl
      obtain ⟨⟨h1, h2⟩, h3⟩ := hl
      have hx : t.tx = x := by unfold Tok.tx; rw [h2]
      have e1 : acc ++ x :: us = (acc ++ [x]) ++ us := by simp
      rw [e1] at ha hn hs ⊢
      have hi : insSB acc t.tx = acc ++ [x] := by rw [hx]; exact insS_last (List.Pairwise.sublist (List.sublist_append_left _ _) ha)
      rw [restQ, if_pos ⟨hk, h1⟩]
      show (if 12 < (insSB acc t.tx).length then _ else restQ k ⟨k, a, b, insSB acc t.tx⟩ e l) = _
      rw [hi, if_neg (by rw [List.length_append] at hn; omega)]
      exact rest_us k a b e hk us l (acc ++ [x]) h3 ha hn hs
theorem map_cons2 {l : List Tok} {k : Int} {w : List UInt8} {ts : List (Int × List UInt8)} (h : l.map (fun t => (t.kind, t.text)) = (k, w) :: ts) : ∃ c r, l = ⟨k, w, c⟩ :: r ∧ r.map (fun t => (t.kind, t.text)) = ts := by
  match l, h with
  | ⟨a, b, c⟩ :: r, h =>
    simp only [List.map_cons, List.cons.injEq, Prod.mk.injEq] at h
    obtain ⟨⟨h1, h2⟩, h3⟩ := h
    subst h1 h2
    exact ⟨c, r, rfl, h3⟩
theorem role_atQ (x : Rl) (c1 c2 c3 : Int) (l : List Tok) (e : Int) : (Rd.mk (⟨1, bl x.o, c1⟩ :: ⟨3, [46], c2⟩ :: ⟨2, bl x.n, c3⟩ :: l) e 0 0).role = (x, ⟨l, e, 0, 0⟩) := by
  rw [role_def, take_yes _ _ _ _ _ rfl]
  dsimp only
  rw [take_yes _ _ _ _ _ rfl]
  dsimp only
  rw [take_yes _ _ _ _ _ rfl]
theorem wordq_at (ws : List ByteArray) (x : ByteArray) (c : Int) (l : List Tok) (e : Int) (h : hasB ws x = true) : (Rd.mk (⟨2, bl x, c⟩ :: l) e 0 0).word ws = (x, ⟨l, e, 0, 0⟩) := by
  unfold Rd.word
  have ht : (⟨2, bl x, c⟩ : Tok).tx = x := ba_bl x
  rw [want_yes _ _ _ _ _ (by unfold wordIn; rw [ht, h]; rfl), ht]
theorem ask_at (k : Int) (h1 : 1 ≤ k) (h6 : k ≤ 6) (l : List Tok) (r : List (Int × List UInt8)) (e : Int) (h : l.map (fun t => (t.kind, t.text)) = (wordsL k).map (fun x => (2, bl x)) ++ r) :
    ∃ l', (Rd.mk l e 0 0).ask (univB k) = (k, ⟨l', e, 0, 0⟩) ∧ l'.map (fun t => (t.kind, t.text)) = r := by
  have hk : k = 1 ∨ k = 2 ∨ k = 3 ∨ k = 4 ∨ k = 5 ∨ k = 6 := by omega
  rcases hk with rfl | rfl | rfl | rfl | rfl | rfl
  · obtain ⟨c, l', rfl, h'⟩ := map_cons2 (w := bl wHas) h
    exact ⟨l', by unfold Rd.ask; rw [show askW (univB 1) = [wHas, wWithin, wApart, wIn] from rfl, wordq_at _ _ _ _ _ (by decide), kw1]; rfl, h'⟩
  · obtain ⟨c, l', rfl, h'⟩ := map_cons2 (w := bl wHave) h
    exact ⟨l', by unfold Rd.ask; rw [show askW (univB 2) = [wHave, wBe] from rfl, wordq_at _ _ _ _ _ (by decide), kw2]; rfl, h'⟩
  · obtain ⟨c, l', rfl, h'⟩ := map_cons2 (w := bl wWithin) h
    exact ⟨l', by unfold Rd.ask; rw [show askW (univB 3) = [wHas, wWithin, wApart, wIn] from rfl, wordq_at _ _ _ _ _ (by decide), kw3]; rfl, h'⟩
  · obtain ⟨c, l1, rfl, h'⟩ := map_cons2 (w := bl wBe) h
    obtain ⟨c2, l', rfl, h''⟩ := map_cons2 (w := bl wEmpty) h'
    exact ⟨l', by unfold Rd.ask; rw [show askW (univB 4) = [wHave, wBe] from rfl, wordq_at _ _ _ _ _ (by decide), kw4, if_pos rfl, wordq_at _ _ _ _ _ (by decide)], h''⟩
  · obtain ⟨c, l', rfl, h'⟩ := map_cons2 (w := bl wApart) h
    exact ⟨l', by unfold Rd.ask; rw [show askW (univB 5) = [wHas, wWithin, wApart, wIn] from rfl, wordq_at _ _ _ _ _ (by decide), kw5]; rfl, h'⟩
  · obtain ⟨c, l', rfl, h'⟩ := map_cons2 (w := bl wIn) h
    exact ⟨l', by unfold Rd.ask; rw [show askW (univB 6) = [wHas, wWithin, wApart, wIn] from rfl, wordq_at _ _ _ _ _ (by decide), kw6]; rfl, h'⟩
theorem read_line (q : Qd) (h : GoodQ q) (l : List Tok) (e : Int) (hl : l.map (fun t => (t.kind, t.text)) = tokQ q) : readQ l e = (q, 0, 0) := by
  obtain ⟨k, a, b, us⟩ := q
  obtain ⟨h1, h6, ha, hp, hasc, hfew, htwo, hone, hnone, hsome⟩ := h
  dsimp only at h1 h6 ha hp hasc hfew htwo hone hnone hsome
  unfold tokQ at hl
  obtain ⟨c0, l0, rfl, hl0⟩ := map_cons2 hl
  clear hl
  obtain ⟨c1, l1, rfl, hl1⟩ := map_cons2 hl0
  clear hl0
  obtain ⟨c2, l2, rfl, hl2⟩ := map_cons2 hl1
  clear hl1
  obtain ⟨c3, l3, rfl, hl3⟩ := map_cons2 hl2
  clear hl2
  have hw : hasB [wAlways, wCan] (headW k) = true := by unfold headW; split <;> decide
  have hd : decide (headW k = wAlways) = univB k := by
    unfold headW
    cases univB k <;> decide
  obtain ⟨l', ea, hl'⟩ := ask_at k h1 h6 l3 _ e hl3
  unfold readQ midQ
  rw [wordq_at _ _ _ _ _ hw]
  dsimp only
  rw [hd, role_atQ]
  dsimp only
  rw [ea]
  dsimp only
  clear hl3 ea hw hd
  have hs : secB k = decide (5 ≤ k) := by
    have hk : k = 1 ∨ k = 2 ∨ k = 3 ∨ k = 4 ∨ k = 5 ∨ k = 6 := by omega
    rcases hk with rfl | rfl | rfl | rfl | rfl | rfl <;> rfl
  by_cases h5 : 5 ≤ k
  · have hus := hnone (by omega)
    subst hus
    rw [hs, if_pos (decide_eq_true h5)] at hl'
    obtain ⟨d1, l4, rfl, hl4⟩ := map_cons2 hl'
    obtain ⟨d2, l5, rfl, hl5⟩ := map_cons2 hl4
    obtain ⟨d3, l6, rfl, hl6⟩ := map_cons2 hl5
    obtain rfl : l6 = [] := by simpa using hl6
    rw [tail_two k (by omega), role_atQ, endQ_nil]
  · have hb := hone h5
    subst hb
    rw [hs, if_neg (by simp [h5]), List.nil_append] at hl'
    by_cases h4 : k = 4
    · subst h4
      have hus := hnone (by omega)
      subst hus
      obtain rfl : l' = [] := by simpa using hl'
      rw [tail_none]
      rfl
    · rw [tail_who k a (by omega)]
      exact rest_us k a noR e (by omega) us l' [] hl' hasc hfew (fun h => hsome h)
theorem isP_size' {lo hi : Int} {x : ByteArray} (h : isP lo hi (bl x) = true) : x.size ≤ 8 := by have := (isP_len h).2; rwa [bl_len] at this
theorem tailL_len (M : Nat) : ∀ (xs : List ByteArray), (∀ x ∈ xs, x.size ≤ M) → (tailL xs).length ≤ xs.length * (M + 1)
  | [], _ => by simp [tailL]
  | x :: r, h => by
    have h1 := tailL_len M r (fun y hy => h y (by simp [hy]))
    have h2 := h x (by simp)
    rw [tailL_cons, List.length_cons, List.length_append, bl_len, List.length_cons, Nat.succ_mul]
    omega
theorem tailL_plain : ∀ (xs : List ByteArray), (∀ x ∈ xs, ∀ c ∈ bl x, ¬ c = 35) → ∀ c ∈ tailL xs, ¬ c = 35
  | [], _ => fun c hc => by cases hc
  | x :: r, h => fun c hc => by
    rw [tailL_cons] at hc
    rcases List.mem_cons.1 hc with rfl | hc
    · decide
    rcases List.mem_append.1 hc with hc | hc
    · exact h x (by simp) c hc
    · exact tailL_plain r (fun y hy => h y (by simp [hy])) c hc
theorem role_plain {x : Rl} (h : isRole x = true) : ∀ c ∈ bl (roleT x), ¬ c = 35 := by
  simp only [isRole, Bool.and_eq_true] at h
  have e : bl (roleT x) = bl x.o ++ 46 :: bl x.n := by simp [roleT, bl]
  intro c hc
  rw [e] at hc
  rcases List.mem_append.1 hc with hc | hc
  · exact isP_plain h.1 c hc
  rcases List.mem_cons.1 hc with rfl | hc
  · decide
  · exact isP_plain h.2 c hc
theorem role_size {x : Rl} (h : isRole x = true) : (roleT x).size ≤ 17 := by
  simp only [isRole, Bool.and_eq_true] at h
  have h1 := isP_size' h.1
  have h2 := isP_size' h.2
  have e : (⟨#[46]⟩ : ByteArray).size = 1 := rfl
  simp only [roleT, ByteArray.size_append, e]
  omega
theorem words_len (k : Int) : (tailL (wordsL k)).length ≤ 9 := by
  unfold wordsL
  split
  · decide
  split
  · decide
  split
  · decide
  split
  · decide
  split
  · decide
  split <;> decide
theorem words_plain (k : Int) : ∀ c ∈ tailL (wordsL k), ¬ c = 35 := by
  unfold wordsL
  split
  · decide
  split
  · decide
  split
  · decide
  split
  · decide
  split
  · decide
  split <;> decide
theorem lineQ_app (q : Qd) : lineQ q = bl (headW q.k) ++ (32 :: (bl (roleT q.a) ++ (tailL (wordsL q.k) ++ (tailL (if secB q.k = true then [roleT q.b] else []) ++ tailL q.us)))) := by
  unfold lineQ
  rw [tailL_cons, tailL_app, tailL_app]
theorem lineQ_plain (q : Qd) (h : GoodQ q) : ∀ c ∈ lineQ q, ¬ c = 35 := by
  rw [lineQ_app]
  intro c hc
  rcases List.mem_append.1 hc with hc | hc
  · unfold headW at hc
    split at hc
    · exact isP_plain (word_isP' _ (by simp)) c hc
    · exact isP_plain (word_isP' _ (by simp)) c hc
  rcases List.mem_cons.1 hc with rfl | hc
  · decide
  rcases List.mem_append.1 hc with hc | hc
  · exact role_plain h.a c hc
  rcases List.mem_append.1 hc with hc | hc
  · exact words_plain _ c hc
  rcases List.mem_append.1 hc with hc | hc
  · refine tailL_plain _ (fun x hx => ?_) c hc
    split at hx
    · rename_i hs
      rw [List.mem_singleton.1 hx]
      refine role_plain (h.two ?_)
      unfold secB at hs
      simp only [Bool.or_eq_true, decide_eq_true_iff] at hs
      omega
    · cases hx
  · exact tailL_plain _ (fun x hx => isP_plain (h.p x hx)) c hc
theorem lineQ_len (q : Qd) (h : GoodQ q) : (lineQ q).length ≤ 200 := by
  rw [lineQ_app]
  have h1 : (bl (headW q.k)).length ≤ 6 := by unfold headW; split <;> decide
  have h2 := role_size h.a
  have h3 := words_len q.k
  have h4 : (tailL (if secB q.k = true then [roleT q.b] else [])).length ≤ 18 := by
    split
    · rename_i hs
      have hb := h.two (by unfold secB at hs; simp only [Bool.or_eq_true, decide_eq_true_iff] at hs; omega)
      have := role_size hb
      rw [tailL_cons]
      simp only [List.length_cons, List.length_append, bl_len]
      have e : (tailL []).length = 0 := rfl
      omega
    · exact Nat.zero_le _
  have h5 := tailL_len 8 q.us (fun x hx => isP_size' (h.p x hx))
  have h6 := h.few
  simp only [List.length_append, List.length_cons, bl_len] at h1 ⊢
  omega
theorem tokens_line (q : Qd) (h : GoodQ q) : ∃ l, tokens (lineQ q) = (l, 0, 0) ∧ l.map (fun t => (t.kind, t.text)) = tokQ q := by
  have hb := bare_same (lineQ_plain q h)
  have hl := lineQ_len q h
  have ht := tokL_line q h.a (fun hs => h.two (by unfold secB at hs; simp only [Bool.or_eq_true, decide_eq_true_iff] at hs; omega)) h.p
  obtain ⟨us, h1, h2⟩ := ht (lineQ q).length 0 [] (Nat.le_refl _)
  refine ⟨us, ?_, h2⟩
  unfold tokens
  rw [if_neg (by omega), hb, h1]
  rfl
theorem fit_pos {k : Int} {i n : Nat} {l : List Tok} (h : fitQ k i l = n + 1) : ∃ t r, l = t :: r ∧ goesQ k i t = true ∧ fitQ k (i + 1) r = n := by
  match l, h with
  | [], h => rw [fitQ_nil] at h; cases h
  | t :: r, h =>
    rw [fitQ_cons] at h
    by_cases hg : i < frontQ k ∧ goesQ k i t = true
    · rw [if_pos hg] at h
      exact ⟨t, r, rfl, hg.2, by omega⟩
    · rw [if_neg hg] at h; cases h
theorem okTok1 {t : Tok} (h : okTok t) (hk : t.kind = 1) : isP 65 90 (bl t.tx) = true := h.1 hk
theorem okTok2 {t : Tok} (h : okTok t) (hk : t.kind = 2) : isP 97 122 (bl t.tx) = true := h.2 hk
theorem okRole {t s : Tok} (h : okTok t) (hs : okTok s) (hk : t.kind = 1) (hk2 : s.kind = 2) : isRole ⟨t.tx, s.tx⟩ = true := by
  unfold isRole
  rw [okTok1 h hk, okTok2 hs hk2]; rfl
theorem rest_good (k : Int) (a b : Rl) (e : Int) : ∀ (l : List Tok) (acc : List ByteArray) (q : Qd) (p : Int), (∀ t ∈ l, okTok t) → AscB acc → (∀ x ∈ acc, isP 65 90 (bl x) = true) → acc.length ≤ 12 → restQ k ⟨k, a, b, acc⟩ e l = (q, p, 0) →
    p = 0 ∧ q.k = k ∧ q.a = a ∧ q.b = b ∧ AscB q.us ∧ (∀ x ∈ q.us, isP 65 90 (bl x) = true) ∧ q.us.length ≤ 12 ∧ (k ≤ 2 → ¬ q.us.length = 0) ∧ (4 ≤ k → q.us = acc)
  | [], acc, q, p, _, ha, hp, hn, h => by
    rw [restQ] at h
    by_cases hc : k ≤ 2 ∧ acc.length = 0
    · rw [if_pos hc] at h
      simp only [Prod.mk.injEq] at h
      exact absurd h.2.2 (by decide)
    · rw [if_neg hc] at h
      simp only [Prod.mk.injEq] at h
      obtain ⟨rfl, h2, _⟩ := h
      exact ⟨h2.symm, rfl, rfl, rfl, ha, hp, hn, fun h => fun h' => hc ⟨h, h'⟩, fun _ => rfl⟩
  | t :: l, acc, q, p, ho, ha, hp, hn, h => by
    rw [restQ] at h
    by_cases hc : k ≤ 3 ∧ t.kind = 1
    · rw [if_pos hc] at h
      dsimp only at h
      by_cases hm : 12 < (insSB acc t.tx).length
      · rw [if_pos hm] at h
        simp only [Prod.mk.injEq] at h
        exact absurd h.2.2 (by decide)
      · rw [if_neg hm] at h
        obtain ⟨e1, e2, e3, e4, e5, e6, e7, e8, _⟩ := rest_good k a b e l (insSB acc t.tx) q p (fun x hx => ho x (by simp [hx])) (insS_ascB ha _) (fun x hx => by
          rcases (insS_memB acc t.tx x).1 hx with hx | rfl
          · exact hp x hx
          · exact okTok1 (ho t (by simp)) hc.2) (by omega) h
        exact ⟨e1, e2, e3, e4, e5, e6, e7, e8, fun h => by omega⟩
    · rw [if_neg hc] at h
      simp only [Prod.mk.injEq] at h
      exact absurd h.2.2 (by decide)
theorem read_good (l : List Tok) (e : Int) (ho : ∀ t ∈ l, okTok t) (q : Qd) (p : Int) (h : readQ l e = (q, p, 0)) : GoodQ q ∧ p = 0 := by
  rw [law_query] at h
  have five : ∀ k : Int, k = 1 ∨ k = 2 ∨ k = 3 → fitQ k 0 l = 5 → kindQ k l e = (q, p, 0) → GoodQ q ∧ p = 0 := fun k hk hf h => by
    obtain ⟨t0, l0, rfl, g0', hf⟩ := fit_pos hf
    obtain ⟨t1, l1, rfl, g1', hf⟩ := fit_pos hf
    obtain ⟨t2, l2, rfl, g2', hf⟩ := fit_pos hf
    obtain ⟨t3, l3, rfl, g3', hf⟩ := fit_pos hf
    obtain ⟨t4, l4, rfl, g4', hf⟩ := fit_pos hf
    rw [g1] at g1'
    rw [g3] at g3'
    have hfr : frontQ k = 5 := by rcases hk with rfl | rfl | rfl <;> rfl
    unfold kindQ at h
    rw [hfr, if_neg (by omega)] at h
    have hr := okRole (ho t1 (by simp)) (ho t3 (by simp)) (of_decide_eq_true g1') (of_decide_eq_true g3')
    obtain ⟨e1, e2, e3, e4, e5, e6, e7, e8, e9⟩ := rest_good k _ _ e l4 [] q p (fun x hx => ho x (by simp [hx])) List.Pairwise.nil (fun x hx => by cases hx) (by simp) h
    exact ⟨⟨by omega, by omega, by rw [e3]; exact hr, e6, e5, e7, fun h => by omega, fun _ => e4, fun h => by omega, fun h => e8 (by omega)⟩, e1⟩
  have eight : ∀ k : Int, k = 5 ∨ k = 6 → fitQ k 0 l = 8 → kindQ k l e = (q, p, 0) → GoodQ q ∧ p = 0 := fun k hk hf h => by
    obtain ⟨t0, l0, rfl, g0', hf⟩ := fit_pos hf
    obtain ⟨t1, l1, rfl, g1', hf⟩ := fit_pos hf
    obtain ⟨t2, l2, rfl, g2', hf⟩ := fit_pos hf
    obtain ⟨t3, l3, rfl, g3', hf⟩ := fit_pos hf
    obtain ⟨t4, l4, rfl, g4', hf⟩ := fit_pos hf
    obtain ⟨t5, l5, rfl, g5', hf⟩ := fit_pos hf
    obtain ⟨t6, l6, rfl, g6', hf⟩ := fit_pos hf
    obtain ⟨t7, l7, rfl, g7', hf⟩ := fit_pos hf
    rw [g1] at g1'
    rw [g3] at g3'
    rw [g5] at g5'
    rw [g7] at g7'
    have d4 : decide (k = 4) = false := by rw [decide_eq_false_iff_not]; omega
    have d5 : decide (5 ≤ k) = true := by rw [decide_eq_true_iff]; omega
    rw [d4, d5, Bool.false_and, Bool.false_or, Bool.true_and] at g5'
    rw [d5, Bool.true_and] at g7'
    have hfr : frontQ k = 8 := by rcases hk with rfl | rfl <;> rfl
    unfold kindQ at h
    rw [hfr, if_pos (by omega)] at h
    have hr := okRole (ho t1 (by simp)) (ho t3 (by simp)) (of_decide_eq_true g1') (of_decide_eq_true g3')
    have hr2 := okRole (ho t5 (by simp)) (ho t7 (by simp)) (of_decide_eq_true g5') (of_decide_eq_true g7')
    obtain ⟨e1, e2, e3, e4, e5, e6, e7, e8, e9⟩ := rest_good k _ _ e l7 [] q p (fun x hx => ho x (by simp [hx])) List.Pairwise.nil (fun x hx => by cases hx) (by simp) h
    exact ⟨⟨by omega, by omega, by rw [e3]; exact hr, e6, e5, e7, fun _ => by rw [e4]; exact hr2, fun h => by omega, fun h => e9 (by omega), fun h => by omega⟩, e1⟩
  unfold refQ at h
  by_cases f1' : fitQ 1 0 l = 5
  · rw [if_pos f1'] at h; exact five 1 (by simp) f1' h
  rw [if_neg f1'] at h
  by_cases f2' : fitQ 2 0 l = 5
  · rw [if_pos f2'] at h; exact five 2 (by simp) f2' h
  rw [if_neg f2'] at h
  by_cases f3' : fitQ 3 0 l = 5
  · rw [if_pos f3'] at h; exact five 3 (by simp) f3' h
  rw [if_neg f3'] at h
  by_cases f4' : fitQ 4 0 l = 6
  · rw [if_pos f4'] at h
    obtain ⟨t0, l0, rfl, g0', hf⟩ := fit_pos f4'
    obtain ⟨t1, l1, rfl, g1', hf⟩ := fit_pos hf
    obtain ⟨t2, l2, rfl, g2', hf⟩ := fit_pos hf
    obtain ⟨t3, l3, rfl, g3', hf⟩ := fit_pos hf
    obtain ⟨t4, l4, rfl, g4', hf⟩ := fit_pos hf
    obtain ⟨t5, l5, rfl, g5', hf⟩ := fit_pos hf
    rw [g1] at g1'
    rw [g3] at g3'
    unfold kindQ at h
    rw [f4, if_neg (by decide)] at h
    have hr := okRole (ho t1 (by simp)) (ho t3 (by simp)) (of_decide_eq_true g1') (of_decide_eq_true g3')
    obtain ⟨e1, e2, e3, e4, e5, e6, e7, e8, e9⟩ := rest_good 4 _ _ e l5 [] q p (fun x hx => ho x (by simp [hx])) List.Pairwise.nil (fun x hx => by cases hx) (by simp) h
    exact ⟨⟨by omega, by omega, by rw [e3]; exact hr, e6, e5, e7, fun h => by omega, fun _ => e4, fun _ => e9 (by omega), fun h => by omega⟩, e1⟩
  rw [if_neg f4'] at h
  by_cases f5' : fitQ 5 0 l = 8
  · rw [if_pos f5'] at h; exact eight 5 (by simp) f5' h
  rw [if_neg f5'] at h
  by_cases f6' : fitQ 6 0 l = 8
  · rw [if_pos f6'] at h; exact eight 6 (by simp) f6' h
  rw [if_neg f6'] at h
  unfold endQ at h
  split at h <;> simp only [Prod.mk.injEq] at h <;> exact absurd h.2.2 (by decide)
def parseQT (t : List Tok × Int × Int) (e : Int) : Qd × Int × Int := if t.2.2 ≠ 0 then (noQd, t.2.1, t.2.2) else readQ t.1 e
def parseQ (s : ByteArray) : Qd × Int × Int := parseQT (tokens (bl s)) (endOf s)
def textQ (q : Qd) : ByteArray := joinB (partsQ q) ⟨#[32]⟩
theorem parse_textQ (q : Qd) (h : GoodQ q) : parseQ (textQ q) = (q, 0, 0) := by
  obtain ⟨l, h1, h2⟩ := tokens_line q h
  unfold parseQ parseQT textQ
  rw [parts_line, h1, if_neg (fun h => h rfl)]
  exact read_line q h l _ h2
theorem parse_goodQ (s : ByteArray) (h : (parseQ s).2.2 = 0) : GoodQ (parseQ s).1 ∧ (parseQ s).2.1 = 0 := by
  unfold parseQ parseQT at h ⊢
  by_cases h0 : (tokens (bl s)).2.2 = 0
  · rw [if_neg (fun x => x h0)] at h ⊢
    exact read_good _ (endOf s) (tokens_ok _) _ _ (Prod.ext rfl (Prod.ext rfl h))
  · rw [if_pos h0] at h
    exact absurd h h0
theorem textQ_inj {a b : Qd} (ha : GoodQ a) (hb : GoodQ b) (h : textQ a = textQ b) : a = b := by
  have h1 := parse_textQ a ha
  rw [h, parse_textQ b hb] at h1
  exact (congrArg Prod.fst h1).symm
theorem textQ_size (q : Qd) (h : GoodQ q) : (textQ q).size ≤ 200 := by
  have := lineQ_len q h
  rw [← bl_len]
  unfold textQ
  rw [parts_line]
  exact this
end Go.Proofs.YtedkkegjiikcmaaDoor
namespace Go.Proofs.YtedkkegjiikcmaaDoor
open Go.RowKit Go.Shelf

end Go.Proofs.YtedkkegjiikcmaaDoor
namespace Go.Proofs.YtedkkegjiikcmaaDoor
open Go.RowKit Go.Shelf

end Go.Proofs.YtedkkegjiikcmaaDoor
namespace Go.Proofs.YtedkkegjiikcmaaDoor
open Go.RowKit Go.Shelf Go.Lib Go.Sort

instance rlInh : Inhabited Rl := ⟨⟨ByteArray.empty, ByteArray.empty⟩⟩
end Go.Proofs.YtedkkegjiikcmaaDoor
namespace Go.Proofs.YtedkkegjiikcmaaDoor
open Go.RowKit Go.Shelf

end Go.Proofs.YtedkkegjiikcmaaDoor
namespace Go.Proofs.YtedkkegjiikcmaaDoor
open Go.RowKit Go.Shelf

end Go.Proofs.YtedkkegjiikcmaaDoor
namespace Go.Proofs.YtedkkegjiikcmaaDoor
open Go.RowKit Go.Shelf

end Go.Proofs.YtedkkegjiikcmaaDoor
namespace Go.Proofs.YtedkkegjiikcmaaDoor
open Go.RowKit Go.Shelf

end Go.Proofs.YtedkkegjiikcmaaDoor
namespace Go.Proofs.YtedkkegjiikcmaaDoor
open Go.RowKit Go.Shelf

end Go.Proofs.YtedkkegjiikcmaaDoor
namespace Go.Proofs.YtedkkegjiikcmaaDoor
open Go.RowKit Go.Shelf

structure TwoAt (w : World) (A B : Array Value) (wx : World) : Prop where
  a : Blk wx w.heap.size A
  b : Blk wx (w.heap.size + 1) B
  low : Below w.heap.size w wx
theorem TwoAt.later {w wx w' : World} {A B : Array Value} (h : TwoAt w A B wx) (hb : Below wx.heap.size wx w') : TwoAt w A B w' := ⟨h.a.below hb, h.b.below hb, h.low.trans (hb.mono h.low.size)⟩
theorem TwoAt.alloc {w wx : World} {A B : Array Value} (h : TwoAt w A B wx) (o : Obj) : TwoAt w A B (wx.alloc o) := h.later ((Below.refl _ _).alloc (Nat.le_refl _) o)
theorem TwoAt.drew {w wx : World} {A B : Array Value} (h : TwoAt w A B wx) : TwoAt w A B wx.drew := h.later (below_drew (Below.refl _ _))
end Go.Proofs.YtedkkegjiikcmaaDoor
namespace Go.Proofs.YtedkkegjiikcmaaDoor
open Go.RowKit Go.Shelf

theorem TwoAt.new (w : World) (A B : Array Value) (t u : TypeId) : TwoAt w A B ((w.alloc (.cells A t)).alloc (.cells B u)) :=
  ⟨(Blk.new w A t).alloc _, by have := Blk.new (w.alloc (.cells A t)) B u; simpa using this, ((Below.refl _ _).alloc (Nat.le_refl _) _).alloc (by simp) _⟩
end Go.Proofs.YtedkkegjiikcmaaDoor
namespace Go.Proofs.YtedkkegjiikcmaaDoor
open Go.RowKit Go.Shelf

end Go.Proofs.YtedkkegjiikcmaaDoor
namespace Go.Proofs.YtedkkegjiikcmaaDoor
open Go.RowKit Go.Shelf

theorem take_moreT {α : Type} {l m : List α} {k : Nat} (h : l.take k = m.take k) (hl : k < l.length) (hm : k < m.length) (e : l[k] = m[k]) : l.take (k + 1) = m.take (k + 1) := by
  rw [List.take_succ_eq_append_getElem hl, List.take_succ_eq_append_getElem hm, h, e]
theorem same_endT {l m : List ByteArray} {k : Nat} (h : l.take k = m.take k) (hl : ¬ k < l.length) (hm : ¬ k < m.length) : decide (l = m) = true := by
  rw [List.take_of_length_le (by omega), List.take_of_length_le (by omega)] at h
  exact decide_eq_true h
theorem same_noT {l m : List ByteArray} {k : Nat} (hl : k < l.length) (hm : k < m.length) (e : ¬ l[k] = m[k]) : decide (l = m) = false := decide_eq_false (fun h => e (by subst h; rfl))
theorem same_lenT {l m : List ByteArray} (h : ¬ l.length = m.length) : decide (l = m) = false := decide_eq_false (fun e => h (by rw [e]))
set_option maxRecDepth 100000 in
set_option maxHeartbeats 2000000 in
theorem str_Equal (va vb : Value) (l m : List ByteArray) (w : World) (ha : SlA w 1 va l.length (strs l)) (hb : SlA w 1 vb m.length (strs m)) :
    Calls Tryd.prog 61 #[va, vb] w fun e w' => e = .returned (.bool (decide (l = m))) ∧ ∃ n, w' = w.drewN n := by
  have hmax := ha.max
  have hmax2 := hb.max
  by_cases hl : l.length = m.length
  case neg =>
    have R := Lib.hid (same_lenT hl)
    have d : ((l.length : Int) != (m.length : Int)) = true := by rw [bne_iff_ne]; omega
    obtain ⟨a1, c1, rfl⟩ := ha.form
    obtain ⟨a2, c2, rfl⟩ := hb.form
    clear ha hb hl
    go_enter Tryd.func61, Tryd.ntmps61
    go_wp2
    go_ret
    exact ⟨ret_b R.out.symm, 0, rfl⟩
  have hne : ((l.length : Int) != (m.length : Int)) = false := by rw [hl]; simp
  by_cases h0 : 0 < l.length
  · obtain ⟨b1, o1, c1, rfl, hc1, hm1, _, hx1⟩ := ha.pos h0
    obtain ⟨b2, o2, c2, rfl, hc2, hm2, _, hx2⟩ := hb.pos (by omega)
    have HX1 := Lib.hid hx1
    have HX2 := Lib.hid hx2
    have HL := Lib.hid hl
    clear ha hb hx1 hx2 hl
    go_enter Tryd.func61, Tryd.ntmps61
    go_wp2
    go_loopw [13] (fun i wr => ∃ k n : Nat, k ≤ l.length ∧ i = .int .i64 k ∧ wr = w.drewN n ∧ Hid (l.take k = m.take k)) (fun i _ => l.length - (intOf i).toNat)
    case atStart => exact ⟨0, 0, by omega, rfl, rfl, Lib.hid (by simp)⟩
    case round =>
      obtain ⟨k, n, hk, rfl, rfl, HT⟩ := hrel
      by_cases hlt : k < l.length
      · have hlt2 : k < m.length := by have := HL.out; omega
        have p0 := HX1.out k _ (strs_get hlt)
        have q0 := HX2.out k _ (strs_get hlt2)
        by_cases he : l[k] = m[k]
        · have HN := Lib.hid (take_moreT HT.out hlt hlt2 he)
          have d1 : (!(l[k].toList == m[k].toList)) = false := by rw [beq_str, decide_eq_true he]; rfl
          clear he
          generalize l[k] = x at *
          generalize m[k] = y at *
          go_wp2_with fail
          go_big_quiet (fail)
          go_wp2
          exact ⟨⟨k + 1, n + nq, by omega, by go_num, rfl, HN⟩, by simp [intOf]; omega⟩
        · have R := Lib.hid (same_noT hlt hlt2 he)
          have d1 : (!(l[k].toList == m[k].toList)) = true := by rw [beq_str, decide_eq_false he]; rfl
          clear he
          generalize l[k] = x at *
          generalize m[k] = y at *
          go_wp2_with fail
          go_big_quiet (fail)
          go_wp2
          go_ret
          exact ⟨ret_b R.out.symm, n + nq, by simp [World.drewN, Nat.add_assoc]⟩
      · have R := Lib.hid (same_endT HT.out hlt (by have := HL.out; omega))
        go_wp2
        go_ret
        exact ⟨ret_b R.out.symm, n, rfl⟩
  · have R := Lib.hid (same_endT (l := l) (m := m) (k := 0) (by simp) h0 (by omega))
    obtain ⟨a1, c1, rfl⟩ := ha.form
    obtain ⟨a2, c2, rfl⟩ := hb.form
    have d0 : l.length = 0 := by omega
    have d02 : m.length = 0 := by omega
    clear ha hb h0 hmax hl hmax2
    go_enter Tryd.func61, Tryd.ntmps61
    go_wp2
    go_loopw [13] (fun i wr => i = .int .i64 0 ∧ wr = w) (fun _ _ => 0)
    case atStart => exact ⟨rfl, rfl⟩
    case round =>
      obtain ⟨rfl, rfl⟩ := hrel
      go_wp2
      go_ret
      exact ⟨ret_b R.out.symm, 0, rfl⟩
end Go.Proofs.YtedkkegjiikcmaaDoor
namespace Go.Proofs.YtedkkegjiikcmaaDoor
open Go.RowKit Go.Shelf

set_option maxRecDepth 100000 in
set_option maxHeartbeats 2000000 in
theorem str_IndexC (va : Value) (l : List ByteArray) (s : ByteArray) (w : World) (ha : SlA w 1 va l.length (strs l)) :
    Calls Tryd.prog 103 #[va, .string s] w fun e w' => (∃ i : Int, e = .returned (.int .i64 i) ∧ hasB l s = decide (0 ≤ i)) ∧ w' = w := by
  have HA := Lib.hid ha
  have hmax := ha.max
  obtain ⟨ao, cap, hva⟩ := ha.form
  subst hva
  clear ha
  have HY := Lib.hid (fun k (hk : k < l.length) (e : l[k] = s) => hasB_yes hk e)
  have HN := Lib.hid (fun k (hk : ¬ k < l.length) h => hasB_end (l := l) (s := s) (k := k) hk h)
  generalize hasB l s = res at HY HN ⊢
  go_enter Tryd.func103, Tryd.ntmps103
  go_wp2
  go_loopw [8] (fun i wr => ∃ k : Nat, k ≤ l.length ∧ i = .int .i64 k ∧ Hid (∀ j (hj : j < l.length), j < k → ¬ l[j] = s) ∧ wr = w) (fun i _ => l.length - (intOf i).toNat)
  case atStart => exact ⟨0, by omega, rfl, Lib.hid (fun _ _ h => absurd h (by omega)), rfl⟩
  case round =>
    obtain ⟨k, hk, rfl, HJ, rfl⟩ := hrel
    by_cases hlt : k < l.length
    · obtain ⟨b1, o1, c1, he1, hc1, hm1, hb1, hx1⟩ := HA.out.pos (by omega)
      simp only [Value.slice.injEq, true_and] at he1
      obtain ⟨rfl, rfl⟩ := he1
      have p0 := hx1 k _ (strs_get hlt)
      have YES := Lib.hid (HY.out k hlt)
      have HJ2 : Hid (¬ l[k] = s → ∀ j (hj : j < l.length), j < k + 1 → ¬ l[j] = s) := Lib.hid (fun hpk j hj hjk => by
        by_cases h : j < k
        · exact HJ.out j hj h
        · obtain rfl : j = k := by omega
          exact hpk)
      clear hx1
      generalize l[k] = x at *
      by_cases e : x = s
      · have d : (s.toList == x.toList) = true := by rw [beq_str, e]; exact decide_eq_true rfl
        have d' : (x.toList == s.toList) = true := by rw [beq_str, e]; exact decide_eq_true rfl
        have R := Lib.hid (YES.out e)
        clear e
        go_wp2
        go_ret
        exact ⟨⟨(k : Int), rfl, by rw [R.out, decide_eq_true (Int.natCast_nonneg k)]⟩, rfl⟩
      · have d : (s.toList == x.toList) = false := by rw [beq_str]; exact decide_eq_false (fun h => e h.symm)
        have d' : (x.toList == s.toList) = false := by rw [beq_str]; exact decide_eq_false e
        have HJ3 := Lib.hid (HJ2.out e)
        clear e
        go_wp2
        exact ⟨⟨k + 1, by omega, by go_num, HJ3, by first | rfl | trivial⟩, by simp [intOf]; omega⟩
    · have R := Lib.hid (HN.out k hlt HJ.out)
      go_wp2
      go_ret
      exact ⟨⟨-1, rfl, by rw [R.out]; rfl⟩, rfl⟩
set_option maxHeartbeats 1000000 in
theorem str_ContainsC (va : Value) (l : List ByteArray) (s : ByteArray) (w : World) (ha : SlA w 1 va l.length (strs l)) :
    Calls Tryd.prog 82 #[va, .string s] w fun e w' => e = .returned (.bool (hasB l s)) ∧ w' = w := by
  have I := Lib.hid (str_IndexC va l s w ha)
  generalize hasB l s = res at I ⊢
  clear ha
  go_enter Tryd.func82, Tryd.ntmps82
  go_wp2_with fail
  refine I.out.mono ?_
  rintro e w1 ⟨⟨i, rfl, hi⟩, rfl⟩
  have HI := Lib.hid hi
  clear hi
  go_wp2
  go_ret
  exact ⟨ret_b HI.out.symm, rfl⟩
end Go.Proofs.YtedkkegjiikcmaaDoor
namespace Go.Proofs.YtedkkegjiikcmaaDoor
open Go.RowKit Go.Shelf

abbrev tkv (t : Tok) : Value := .agg #[.int .i64 t.kind, .string ⟨t.text.toArray⟩, .int .i64 t.col]
def Rd.failQ (r : Rd) (y : Int) : Rd := if r.why ≠ 0 then r else match r.l with | [] => ⟨[], r.e, r.e, y⟩ | t :: l => ⟨t :: l, r.e, t.col, y⟩
theorem failQ_why (r : Rd) (y : Int) (h : r.why ≠ 0) : r.failQ y = r := if_pos h
theorem failQ_nil (e p y : Int) : (Rd.mk [] e p 0).failQ y = ⟨[], e, e, y⟩ := rfl
theorem failQ_cons (t : Tok) (l : List Tok) (e p y : Int) : (Rd.mk (t :: l) e p 0).failQ y = ⟨t :: l, e, t.col, y⟩ := rfl
set_option maxRecDepth 100000 in
set_option maxHeartbeats 2000000 in
theorem qr_fail (r : Rd) (w0 w : World) (g : Nat) (y : Int) (h : RdAt w0 w g r) :
    Calls Tryd.prog 47 #[.pointer (some ⟨g, 0, none⟩), .int .i64 y] w fun e w' => e = .returned (.tuple #[]) ∧ RdAt w0 w' g (r.failQ y) ∧ w.grownBy w' (some g) := by
  have H := Lib.hid h
  obtain ⟨hlow, hbel, lv, hs, hblk⟩ := h
  obtain ⟨l, e, p, why⟩ := r
  have hg := hblk.2.2
  have c0 := hblk.cell 0 lv rfl
  have c1 := hblk.cell 1 (.int .i64 e) rfl
  have c2 := hblk.cell 2 (.int .i64 p) rfl
  have c3 := hblk.cell 3 (.int .i64 why) rfl
  have f0 := hblk.2.1
  by_cases hw : why = 0
  · subst hw
    have HS := Lib.hid hs
    have HB := Lib.hid hblk
    have HBE := Lib.hid hbel
    cases l with
    | nil =>
      have E := Lib.hid (failQ_nil e p y)
      obtain ⟨a, cap, rfl⟩ := hs.form
      clear hs hblk hbel
      go_enter Tryd.func47, Tryd.ntmps47
      go_wp2
      go_end0
      rw [E.out]
      exact ⟨rfl, ⟨hlow, (HBE.out.setCell hlow _).setCell hlow _, _, HS.out, ((HB.out.set 3 _ (by simp)).set 2 _ (by simp))⟩, gb_setCell (gb_setCell (World.grownBy.refl _ _) _) _⟩
    | cons t tl =>
      obtain ⟨b, off, cap, rfl, hc, hm, hlt, hx⟩ := hs.pos (by simp)
      obtain ⟨t0, t1, t2⟩ := tk_head (Sl.cells_later hbel hlt hx)
      have hbg : ¬ b = g := by omega
      have hbw : b < w.heap.size := by have := hbel.size; omega
      have E := Lib.hid (failQ_cons t tl e p y)
      clear hs hblk hbel hx
      have d1 : decide ((0 : Int) < (tl.length : Int) + 1) = true := by (rw [decide_eq_true_iff]; omega)
      go_enter Tryd.func47, Tryd.ntmps47
      go_wp2
      go_end0
      rw [E.out]
      exact ⟨rfl, ⟨hlow, ((HBE.out.setCell hlow _).setCell hlow _).setCell hlow _, _, HS.out, (((HB.out.set 3 _ (by simp)).set 2 _ (by simp)).set 2 _ (by simp))⟩, gb_setCell (gb_setCell (gb_setCell (World.grownBy.refl _ _) _) _) _⟩
  · have d : (why != 0) = true := by simp [hw]
    have E := Lib.hid (failQ_why ⟨l, e, p, why⟩ y hw)
    clear hw hs hblk hbel
    go_enter Tryd.func47, Tryd.ntmps47
    go_wp2
    exact bodyPost_ret (v := .tuple #[]) (by simp [results, Tryd.results47, go_sem]) rfl ⟨rfl, by rw [E.out]; exact H.out, World.grownBy.refl _ _⟩
theorem want_failQ (e p why : Int) (f : Tok → Bool) : ((Rd.mk [] e p why).want f) = (emp, (Rd.mk [] e p why).failQ 3) ∧ ¬ ((Rd.mk [] e p why).failQ 3).why = 0 := by
  by_cases hw : why = 0
  · subst hw; exact ⟨rfl, by rw [failQ_nil]; exact (by decide : ¬ (3 : Int) = 0)⟩
  · rw [failQ_why _ _ hw, want_why _ _ _ _ _ hw]; exact ⟨rfl, hw⟩
theorem want_noQ (t : Tok) (l : List Tok) (e p why : Int) (f : Tok → Bool) (h : f t = false) : ((Rd.mk (t :: l) e p why).want f) = (emp, (Rd.mk (t :: l) e p why).failQ 2) ∧ ¬ ((Rd.mk (t :: l) e p why).failQ 2).why = 0 := by
  by_cases hw : why = 0
  · subst hw; rw [want_no _ _ _ _ _ h]; exact ⟨rfl, by rw [failQ_cons]; exact (by decide : ¬ (2 : Int) = 0)⟩
  · rw [failQ_why _ _ hw, want_why _ _ _ _ _ hw]; exact ⟨rfl, hw⟩
set_option maxRecDepth 100000 in
set_option maxHeartbeats 4000000 in
theorem qr_want (r : Rd) (w0 w : World) (g fn : Nat) (cb : Array Value) (f : Tok → Bool) (h : RdAt w0 w g r)
    (eg : ∀ args w, (callFunc fn args).run Tryd.prog w = .ok (.enter fn args) w)
    (hp : ∀ t W, Below w.heap.size w W → Calls Tryd.prog fn (#[tkv t] ++ cb) W fun e w' => e = .returned (.bool (f t)) ∧ Below W.heap.size W w') :
    Calls Tryd.prog 80 #[.pointer (some ⟨g, 0, none⟩), .func (.func fn) #[] cb] w fun e w' => e = .returned (.string (r.want f).1) ∧ RdAt w0 w' g (r.want f).2 ∧ w.grownBy w' (some g) := by
  have H := Lib.hid h
  have HP := Lib.hid hp
  have FA := Lib.hid (fun y W (h : RdAt w0 W g r) => qr_fail r w0 W g y h)
  obtain ⟨hlow, hbel, lv, hs, hblk⟩ := h
  obtain ⟨l, e, p, why⟩ := r
  have hg := hblk.2.2
  have c0 := hblk.cell 0 lv rfl
  have c3 := hblk.cell 3 (.int .i64 why) rfl
  have f0 := hblk.2.1
  have HS := Lib.hid hs
  have HB := Lib.hid hblk
  have HBE := Lib.hid hbel
  clear hp
  cases l with
  | nil =>
    obtain ⟨E, E2⟩ := want_failQ e p why f
    rw [E]
    have FA := Lib.hid (fun W h => FA.out 3 W h)
    obtain ⟨a, cap, rfl⟩ := hs.form
    have hsz := hbel.size
    clear hs hblk hbel E
    generalize (Rd.mk [] e p why).failQ 3 = r1 at E2 FA ⊢
    go_enter Tryd.func80, Tryd.ntmps80
    go_wp2_with fail
    refine (FA.out _ H.out).mono ?_
    rintro e1 w1 ⟨rfl, hr1, hg1⟩
    have HR1 := Lib.hid hr1
    obtain ⟨l1, e1, p1, y1⟩ := r1
    obtain ⟨_, _, lv1, _, hb1⟩ := hr1
    have d3 := hb1.cell 3 (.int .i64 y1) rfl
    have dy : (y1 != 0) = true := by simpa using E2
    clear hb1 E2
    go_wp2
    go_ret
    exact ⟨rfl, HR1.out, hg1⟩
  | cons t tl =>
    obtain ⟨b, off, cap, rfl, hc, hm, hlt, hx⟩ := hs.pos (by simp)
    obtain ⟨t0, t1, t2⟩ := tk_head (Sl.cells_later hbel hlt hx)
    have HX := Lib.hid hx
    have HL := Lib.hid hc
    have hsz := hbel.size
    have hbw : b < w.heap.size := by omega
    have hbg : ¬ b = g := by omega
    have d1 : decide ((0 : Int) < (tl.length : Int) + 1) = true := by (rw [decide_eq_true_iff]; omega)
    clear hs hblk hbel hx
    cases hf : f t with
    | false =>
      obtain ⟨E, E2⟩ := want_noQ t tl e p why f hf
      rw [E]
      clear E
      have FA := Lib.hid (fun W h => FA.out 2 W h)
      generalize (Rd.mk (t :: tl) e p why).failQ 2 = r1 at E2 FA ⊢
      have HF := Lib.hid hf
      clear hf
      go_enter Tryd.func80, Tryd.ntmps80
      go_wp2_with fail
      refine (HP.out t _ (Below.refl _ _)).mono ?_
      rintro e1 w1 ⟨rfl, hb1⟩
      rw [HF.out]
      have HG1 := Lib.hid (gb_of_below (r := some g) hb1)
      have HT1 := Lib.hid (H.out.later hb1)
      clear hb1
      go_wp2_with fail
      refine (FA.out _ HT1.out).mono ?_
      rintro e2 w2 ⟨rfl, hr2, hg2⟩
      have HR2 := Lib.hid hr2
      have HG2 := Lib.hid (gb_trans HG1.out hg2)
      obtain ⟨l1, e1, p1, y1⟩ := r1
      obtain ⟨_, _, lv1, _, hb2⟩ := hr2
      have d3 := hb2.cell 3 (.int .i64 y1) rfl
      have dy : (y1 != 0) = true := by simpa using E2
      clear hb2 E2 hg2
      go_wp2
      go_ret
      exact ⟨rfl, HR2.out, HG2.out⟩
    | true =>
      have HF := Lib.hid hf
      by_cases hw : why = 0
      · subst hw
        have E := Lib.hid (want_yes t tl e p f hf)
        clear hf
        go_enter Tryd.func80, Tryd.ntmps80
        go_wp2_with fail
        refine (HP.out t _ (Below.refl _ _)).mono ?_
        rintro e1 w1 ⟨rfl, hb1⟩
        rw [HF.out]
        have HG1 := Lib.hid (gb_of_below (r := some g) hb1)
        have HT1 := Lib.hid (H.out.later hb1)
        have HB1 := Lib.hid (HB.out.below hb1)
        have t0 := (hb1.cell (p := ⟨b, off, none⟩) hbw).trans t0
        have t1 := (hb1.cell (p := ⟨b, off + 1, none⟩) hbw).trans t1
        have t2 := (hb1.cell (p := ⟨b, off + 2, none⟩) hbw).trans t2
        have c0 := HB1.out.cell 0 _ rfl
        have c3 := HB1.out.cell 3 _ rfl
        have f0 := HB1.out.2.1
        have hg := HB1.out.2.2
        have hbw : b < w1.heap.size := Nat.lt_of_lt_of_le hbw hb1.size
        have hsz1 := HT1.out.below.size
        clear hb1
        go_wp2
        · go_ret
          rw [E.out]
          refine ⟨rfl, ⟨hlow, ?_, _, ?_, ((HB1.out.set 0 _ (by simp)).alloc _)⟩, gb_trans HG1.out (gb_alloc (gb_setCell (World.grownBy.refl _ _) _) _)⟩
          · exact (HT1.out.below.setCell hlow _).alloc (by simpa [World.setCell] using hsz1) _
          · obtain rfl : tl = [] := List.eq_nil_of_length_eq_zero (by have := HL.out; simp at this; omega)
            exact ⟨rfl, by simp [maxLen], .inr ⟨b, off, 0, rfl, Nat.le_refl _, by simp [maxLen], hlt, fun j u hu => by simp at hu⟩⟩
        · go_ret
          rw [E.out]
          refine ⟨rfl, ⟨hlow, ?_, _, ?_, ((HB1.out.set 0 _ (by simp)).alloc _)⟩, gb_trans HG1.out (gb_alloc (gb_setCell (World.grownBy.refl _ _) _) _)⟩
          · exact (HT1.out.below.setCell hlow _).alloc (by simpa [World.setCell] using hsz1) _
          · exact Sl.tail HL.out hm hlt HX.out
      · have d : (why != 0) = true := by simp [hw]
        have E := Lib.hid (want_why (t :: tl) e p why f hw)
        clear hw hf
        go_enter Tryd.func80, Tryd.ntmps80
        go_wp2_with fail
        refine (HP.out t _ (Below.refl _ _)).mono ?_
        rintro e1 w1 ⟨rfl, hb1⟩
        rw [HF.out]
        have HG1 := Lib.hid (gb_of_below (r := some g) hb1)
        have HT1 := Lib.hid (H.out.later hb1)
        have c3 := (HB.out.below hb1).cell 3 _ rfl
        clear hb1
        go_wp2
        go_ret
        rw [E.out]
        exact ⟨rfl, HT1.out, HG1.out⟩

set_option maxRecDepth 100000 in
set_option maxHeartbeats 2000000 in
theorem qr_kind1 (t : Tok) (k : Int) (c : Nat) (w : World) (hc : w.cell? ⟨c, 0, none⟩ = some (.int .i64 k)) (hlt : c < w.heap.size) :
    Calls Tryd.prog 104 #[tkv t, .pointer (some ⟨c, 0, none⟩)] w fun e w' => e = .returned (.bool (decide (t.kind = k))) ∧ Below w.heap.size w w' := by
  have hd : (t.kind == k) = decide (t.kind = k) := by by_cases h : t.kind = k <;> simp [h]
  have HD := Lib.hid hd
  clear hd
  go_enter Tryd.func104, Tryd.ntmps104
  go_wp2
  go_ret
  exact ⟨ret_b HD.out, (Below.refl _ _).alloc (Nat.le_refl _) _⟩
theorem take_want (r : Rd) (k : Int) : r.take k = r.want (fun t => decide (t.kind = k)) := by
  unfold Rd.take Rd.want
  cases r.l with
  | nil => rfl
  | cons t l =>
    by_cases h : t.kind = k
    · simp only [h, decide_true, if_true]; rfl
    · simp only [h, decide_false, Bool.false_eq_true, if_false]
set_option maxRecDepth 100000 in
set_option maxHeartbeats 2000000 in
theorem qr_kind (r : Rd) (w0 w : World) (g : Nat) (k : Int) (h : RdAt w0 w g r) :
    Calls Tryd.prog 83 #[.pointer (some ⟨g, 0, none⟩), .int .i64 k] w fun e w' => e = .returned (.string (r.take k).1) ∧ RdAt w0 w' g (r.take k).2 ∧ w.grownBy w' (some g) := by
  have HW := Lib.hid (qr_want r w0 (w.alloc (.cells #[.int .i64 k] 3)) g 104 #[.pointer (some ⟨w.heap.size, 0, none⟩)] (fun t => decide (t.kind = k)) (h.alloc _) (enters_of Tryd.func104 (by kernel_rfl) rfl)
    (fun t W hb => qr_kind1 t k w.heap.size W (by
      rw [hb.cell (p := ⟨w.heap.size, 0, none⟩) (by simp)]
      exact (Blk.new w #[.int .i64 k] 3).cell 0 _ rfl) (Nat.lt_of_lt_of_le (by simp) hb.size)))
  rw [← take_want] at HW
  generalize r.take k = res at HW ⊢
  clear h
  go_enter Tryd.func83, Tryd.ntmps83
  go_wp2_with fail
  refine HW.out.mono ?_
  rintro e w1 ⟨rfl, hr1, hg1⟩
  have HR := Lib.hid hr1
  have HG := Lib.hid (gb_trans (gb_alloc (World.grownBy.refl w _) _) hg1)
  clear hr1 hg1
  go_wp2
  go_ret
  exact ⟨rfl, HR.out, HG.out⟩
set_option maxRecDepth 100000 in
set_option maxHeartbeats 2000000 in
theorem qr_word1 (t : Tok) (v : Value) (ws : List ByteArray) (c : Nat) (w : World) (hc : w.cell? ⟨c, 0, none⟩ = some v) (hlt : c < w.heap.size) (hv : SlA w 1 v ws.length (strs ws)) :
    Calls Tryd.prog 81 #[tkv t, .pointer (some ⟨c, 0, none⟩)] w fun e w' => e = .returned (.bool (wordIn ws t)) ∧ Below w.heap.size w w' := by
  have HC := Lib.hid (fun W (h : Below w.heap.size w W) => str_ContainsC v ws t.tx W (hv.below h))
  have HE := Lib.hid (show wordIn ws t = (decide (t.kind = 2) && hasB ws t.tx) from rfl)
  obtain ⟨a, cap, rfl⟩ := hv.form
  have HB := Lib.hid (show Below w.heap.size w (w.alloc (.cells #[.int .i64 t.kind, .string ⟨t.text.toArray⟩, .int .i64 t.col] 39)) from (Below.refl _ _).alloc (Nat.le_refl _) _)
  clear hv
  by_cases h2 : t.kind = 2
  · have d : (t.kind == 2) = true := by simp [h2]
    have HE := Lib.hid (show wordIn ws t = hasB ws t.tx by rw [HE.out, decide_eq_true h2]; rfl)
    generalize wordIn ws t = res at *
    generalize hasB ws t.tx = hb at *
    clear h2
    go_enter Tryd.func81, Tryd.ntmps81
    go_wp2_with fail
    refine (HC.out _ HB.out).mono ?_
    rintro e w1 ⟨rfl, rfl⟩
    go_wp2
    go_ret
    exact ⟨ret_b HE.out.symm, HB.out⟩
  · have d : (t.kind == 2) = false := by simp [h2]
    have HE := Lib.hid (show wordIn ws t = false by rw [HE.out, decide_eq_false h2]; rfl)
    generalize wordIn ws t = res at *
    clear h2
    go_enter Tryd.func81, Tryd.ntmps81
    go_wp2
    go_ret
    exact ⟨ret_b HE.out.symm, HB.out⟩
set_option maxRecDepth 100000 in
set_option maxHeartbeats 2000000 in
theorem qr_word (r : Rd) (w0 w : World) (g : Nat) (v : Value) (ws : List ByteArray) (h : RdAt w0 w g r) (hv : SlA w 1 v ws.length (strs ws)) :
    Calls Tryd.prog 41 #[.pointer (some ⟨g, 0, none⟩), v] w fun e w' => e = .returned (.string (r.word ws).1) ∧ RdAt w0 w' g (r.word ws).2 ∧ w.grownBy w' (some g) := by
  have HW := Lib.hid (qr_want r w0 (w.alloc (.cells #[v] 22)) g 81 #[.pointer (some ⟨w.heap.size, 0, none⟩)] (wordIn ws) (h.alloc _) (enters_of Tryd.func81 (by kernel_rfl) rfl)
    (fun t W hb => qr_word1 t v ws w.heap.size W (by
      rw [hb.cell (p := ⟨w.heap.size, 0, none⟩) (by simp)]
      exact (Blk.new w #[v] 22).cell 0 _ rfl) (Nat.lt_of_lt_of_le (by simp) hb.size) ((hv.below ((Below.refl _ _).alloc (Nat.le_refl _) _)).below hb)))
  rw [show r.want (wordIn ws) = r.word ws from rfl] at HW
  generalize r.word ws = res at HW ⊢
  obtain ⟨a, cap, rfl⟩ := hv.form
  clear h hv
  go_enter Tryd.func41, Tryd.ntmps41
  go_wp2_with fail
  refine HW.out.mono ?_
  rintro e w1 ⟨rfl, hr1, hg1⟩
  have HR := Lib.hid hr1
  have HG := Lib.hid (gb_trans (gb_alloc (World.grownBy.refl w _) _) hg1)
  clear hr1 hg1
  go_wp2
  go_ret
  exact ⟨rfl, HR.out, HG.out⟩
theorem qkind_pair {r : Rd} {k : Int} {x : ByteArray} {r' : Rd} (h : r.take k = (x, r')) (w0 w : World) (g : Nat) (ha : RdAt w0 w g r) :
    Calls Tryd.prog 83 #[.pointer (some ⟨g, 0, none⟩), .int .i64 k] w fun e w' => e = .returned (.string x) ∧ RdAt w0 w' g r' ∧ w.grownBy w' (some g) := by
  have := qr_kind r w0 w g k ha
  rw [h] at this
  exact this
set_option maxRecDepth 100000 in
set_option maxHeartbeats 1000000 in
theorem qr_role (r : Rd) (w0 w : World) (g : Nat) (h : RdAt w0 w g r) :
    Calls Tryd.prog 42 #[.pointer (some ⟨g, 0, none⟩)] w fun e w' => e = .returned (rv r.role.1) ∧ RdAt w0 w' g r.role.2 ∧ w.grownBy w' (some g) := by
  have hlt := h.lt
  have hlow := h.below.size
  have E := Lib.hid (show r.role = (⟨(r.take 1).1, (((r.take 1).2.take 3).2.take 2).1⟩, (((r.take 1).2.take 3).2.take 2).2) from rfl)
  cases h1 : r.take 1 with | mk x1 r1 =>
  rw [h1] at E; dsimp only at E
  cases h2 : r1.take 3 with | mk x2 r2 =>
  rw [h2] at E; dsimp only at E
  cases h3 : r2.take 2 with | mk x3 r3 =>
  rw [h3] at E; dsimp only at E
  have T1 := Lib.hid (qkind_pair h1 w0)
  have T2 := Lib.hid (qkind_pair h2 w0)
  have T3 := Lib.hid (qkind_pair h3 w0)
  clear h1 h2 h3
  have hne : some w.heap.size ≠ some g := fun e => by cases e; omega
  have hng : g ≠ w.heap.size := fun e => by omega
  go_enter Tryd.func42, Tryd.ntmps42
  go_wp2_with (first
    | (go_at_call 83; (with_reducible refine (T1.out _ g ?_).mono ?_); exact h.alloc _; rintro e w1 ⟨rfl, hr1, hg1⟩; have HB1 := (Blk.new _ _ _).grown hg1 hne; obtain ⟨ca, fa, za⟩ := id HB1)
    | (go_at_call 83; (with_reducible refine (T2.out _ g ?_).mono ?_); exact hr1.set _ hng hlow; rintro e w2 ⟨rfl, hr2, hg2⟩; have HB2 := (HB1.set 0 (.string x1) Nat.zero_lt_two).grown hg2 hne; obtain ⟨ca2, fa2, za2⟩ := id HB2)
    | (go_at_call 83; (with_reducible refine (T3.out _ g ?_).mono ?_); exact hr2; rintro e w3 ⟨rfl, hr3, hg3⟩; have HB3 := HB2.grown hg3 hne; obtain ⟨ca3, fa3, za3⟩ := id HB3))
  refine bodyPost_ret (v := rv ⟨x1, x3⟩) (by simp [results, Tryd.results42, go_sem, ca3]) rfl ⟨by rw [E.out], ?_, ?_⟩
  · rw [E.out]
    exact ((hr3.set _ hng hlow).set _ hng hlow).set _ hng hlow
  · refine gb_new (gb_new (gb_new ?_ (Nat.le_refl _) _) (Nat.le_refl _) _) (Nat.le_refl _) _
    exact gb_trans (gb_trans (gb_new (gb_trans (gb_alloc (World.grownBy.refl _ _) _) hg1) (Nat.le_refl _) _) hg2) hg3
end Go.Proofs.YtedkkegjiikcmaaDoor
