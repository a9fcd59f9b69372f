/- Plain laws of statements and their lines: what is parsed may be; what may be is parsed from its line. strings.Builder, made by the call itself: copyCheck and WriteString at this program: the builder then holds what it held and the new bytes. (The library's own proofs, turned to this translation, in which the panic of copyCheck is refused.). strings.Builder's Grow, and strings.Join, at this program: the pieces with the separator between them. (The library's own proofs, turned to this translation, in which the panic of copyCheck is refused.). The line of a query, and its tokens. A query that may be is what its line is read as; what is read may be. Which queries may be: as the program tells it, and as rows in order. The lines of a text, in plain Lean. slices.IndexFunc and ContainsFunc at texts and at queries (printed by gen_idx.py). slices.Grow and Concat at rows of roles, the row being the call's own (rl_GrowO, rl_Concat of RlConc, turned); slices.Clone of texts. query.Roles, policy.roles, to the letter. -/
import Derived.Test.YtnhkgfgbhedphaaGreatDoorPart3
import Derived.Test.YtnhkgfgbhedphaaGreatDoorPart1
import Derived.Shelf.Strings.BuilderK
import Derived.Test.YtnhkgfgbhedphaaGreatDoorShelf
import Derived.Test.YtnhkgfgbhedphaaGreatDoorPart4
import Derived.Shelf.Strings.OnBuilder
import Derived.Test.YtnhkgfgbhedphaaGreatDoorPart9
import Derived.Lib.IndexLaws
import Derived.Test.YtnhkgfgbhedphaaGreatDoorPart6
import Derived.Test.YtnhkgfgbhedphaaGreatDoorPart7
namespace Go.Proofs.YtnhkgfgbhedphaaGreatDoor

def okTok (t : Tok) : Prop := (t.kind = 1 → isP 65 90 t.text = true) ∧ (t.kind = 2 → isP 97 122 t.text = true)
theorem word_isP (lo hi : Int) (c : UInt8) (r : List UInt8) (hb : btw c.toNat lo hi = true) (ha : alnum c = true) (h8 : ¬ 8 < (wordOf (c :: r)).length) : isP lo hi (wordOf (c :: r)) = true := by
  have e : wordOf (c :: r) = c :: wordOf r := by simp [wordOf, List.takeWhile, ha]
  rw [e] at h8 ⊢
  have hall : (wordOf r).all alnum = true := by
    rw [List.all_eq_true]
    intro x hx
    exact List.all_eq_true.1 (List.all_takeWhile (p := alnum) (l := r)) x hx
  simp only [List.length_cons] at h8
  simp only [isP, hb, List.all_cons, ha, hall, List.length_cons, Bool.and_true, Bool.and_self, decide_eq_true_iff]
  omega
theorem ok_other (k : Int) (t : List UInt8) (p : Int) (h1 : ¬ k = 1) (h2 : ¬ k = 2) : okTok ⟨k, t, p⟩ := ⟨fun h => absurd h h1, fun h => absurd h h2⟩
theorem oneTok_cons (c : UInt8) (r : List UInt8) (p : Nat) : oneTok (c :: r) p =
    if c.toNat = 46 then ⟨3, [c], p + 1⟩ else if c.toNat = 38 then ⟨5, [c], p + 1⟩
    else if [60, 45].isPrefixOf (c :: r) then ⟨4, [60, 45], p + 1⟩
    else if btw c.toNat 65 90 then ⟨1, wordOf (c :: r), p + 1⟩ else if btw c.toNat 97 122 then ⟨2, wordOf (c :: r), p + 1⟩ else ⟨0, [c], p + 1⟩ := rfl
theorem oneTok_ok (l : List UInt8) (p : Nat) (h8 : ¬ 8 < (oneTok l p).text.length) : okTok (oneTok l p) := by
  match l, h8 with
  | [], _ => exact ok_other 0 _ _ (by decide) (by decide)
  | c :: r, h8 =>
    rw [oneTok_cons] at h8 ⊢
    by_cases h1 : c.toNat = 46
    · rw [if_pos h1]; exact ok_other 3 _ _ (by decide) (by decide)
    rw [if_neg h1] at h8 ⊢
    by_cases h2 : c.toNat = 38
    · rw [if_pos h2]; exact ok_other 5 _ _ (by decide) (by decide)
    rw [if_neg h2] at h8 ⊢
    by_cases h3 : [60, 45].isPrefixOf (c :: r) = true
    · rw [if_pos h3]; exact ok_other 4 _ _ (by decide) (by decide)
    rw [if_neg h3] at h8 ⊢
    by_cases h4 : btw c.toNat 65 90 = true
    · rw [if_pos h4] at h8 ⊢
      exact ⟨fun _ => word_isP 65 90 c r h4 (by simp [alnum, h4]) h8, fun h => absurd h (show ¬ (1 : Int) = 2 by decide)⟩
    rw [if_neg h4] at h8 ⊢
    by_cases h5 : btw c.toNat 97 122 = true
    · rw [if_pos h5] at h8 ⊢
      exact ⟨fun h => absurd h (show ¬ (2 : Int) = 1 by decide), fun _ => word_isP 97 122 c r h5 (by simp [alnum, h5]) h8⟩
    · rw [if_neg h5]; exact ok_other 0 _ _ (by decide) (by decide)
theorem toks_ok : ∀ (f : Nat) (l : List UInt8) (p : Nat) (acc : List Tok), (∀ t ∈ acc, okTok t) → ∀ t ∈ (toks f l p acc).1, okTok t
  | 0, l, p, acc, h => by
    have : toks 0 l p acc = (acc, 0, 0) := by unfold toks; rfl
    rw [this]; exact h
  | f + 1, [], p, acc, h => by rw [toks_nil]; exact h
  | f + 1, c :: r, p, acc, h => by
    by_cases hc : c.toNat = 32
    · rw [toks_space _ _ _ _ _ hc]; exact toks_ok f r (p + 1) acc h
    by_cases hk : (oneTok (c :: r) p).kind = 0
    · rw [toks_bad _ _ _ _ _ hc hk]; intro t ht; cases ht
    by_cases hl : 8 < (oneTok (c :: r) p).text.length
    · rw [toks_long _ _ _ _ _ hc hk hl]; intro t ht; cases ht
    · rw [toks_go _ _ _ _ _ hc hk hl]
      refine toks_ok f _ _ _ fun t ht => ?_
      rcases List.mem_append.1 ht with h' | h'
      · exact h t h'
      · rw [List.mem_singleton.1 h']; exact oneTok_ok _ _ hl
theorem tokens_ok (l : List UInt8) : ∀ t ∈ (tokens l).1, okTok t := by
  unfold tokens
  split
  · intro t ht; cases ht
  · exact toks_ok _ _ _ _ (fun t ht => by cases ht)

theorem right_normal (h : Rl) (a b : Rl) (hh : isRole h = true) (ha : isRole a = true) (hb : isRole b = true) : rightS (normalS ⟨4, h, emp, a, b, emp⟩) = true := by
  unfold normalS
  by_cases hl : lessR b a = true
  · rw [if_pos ⟨rfl, hl⟩]
    show rightS ⟨4, h, emp, b, a, emp⟩ = true
    rw [rightS4, hh, ha, hb, less_no hl, eqSt_self]; rfl
  · rw [if_neg (fun x => hl x.2), rightS4, hh, ha, hb, eqSt_self]
    simp only [Bool.not_eq_true] at hl
    rw [hl]; rfl
theorem fits_pos {t : Tok} {l : List Tok} {k : Int} {s : List Int} {n : Nat} (h : fitsS (t :: l) (k :: s) = n + 1) : t.kind = k ∧ fitsS l s = n := by
  rw [fits_cons] at h
  by_cases hk : t.kind = k
  · rw [if_pos hk] at h; exact ⟨hk, by omega⟩
  · rw [if_neg hk] at h; omega
theorem isRole_of {o n : Tok} {a b : ByteArray} (ho : okTok o) (hn : okTok n) (h1 : o.kind = 1) (h2 : n.kind = 2) (ea : bl a = o.text) (eb : bl b = n.text) : isRole ⟨a, b⟩ = true := by
  simp only [isRole, ea, eb, ho.1 h1, hn.2 h2]; rfl
theorem bl_mk (l : List UInt8) : bl ⟨l.toArray⟩ = l := by simp [bl]
theorem len5 {α : Type} {l : List α} (h : l.length = 5) : ∃ t0 t1 t2 t3 t4, l = [t0, t1, t2, t3, t4] := by
  match l, h with
  | [t0, t1, t2, t3, t4], _ => exact ⟨t0, t1, t2, t3, t4, rfl⟩
theorem len7 {α : Type} {l : List α} (h : l.length = 7) : ∃ t0 t1 t2 t3 t4 t5 t6, l = [t0, t1, t2, t3, t4, t5, t6] := by
  match l, h with
  | [t0, t1, t2, t3, t4, t5, t6], _ => exact ⟨t0, t1, t2, t3, t4, t5, t6, rfl⟩
theorem len9 {α : Type} {l : List α} (h : l.length = 9) : ∃ t0 t1 t2 t3 t4 t5 t6 t7 t8, l = [t0, t1, t2, t3, t4, t5, t6, t7, t8] := by
  match l, h with
  | [t0, t1, t2, t3, t4, t5, t6, t7, t8], _ => exact ⟨t0, t1, t2, t3, t4, t5, t6, t7, t8, rfl⟩
theorem len11 {α : Type} {l : List α} (h : l.length = 11) : ∃ t0 t1 t2 t3 t4 t5 t6 t7 t8 t9 t10, l = [t0, t1, t2, t3, t4, t5, t6, t7, t8, t9, t10] := by
  match l, h with
  | [t0, t1, t2, t3, t4, t5, t6, t7, t8, t9, t10], _ => exact ⟨t0, t1, t2, t3, t4, t5, t6, t7, t8, t9, t10, rfl⟩
theorem refS_right (l : List Tok) (e : Int) (ho : ∀ t ∈ l, okTok t) (h : (refS l e).2.2 = 0) : rightS (refS l e).1 = true := by
  unfold refS at h ⊢
  by_cases h1 : fitsS l sh1 = l.length ∧ fitsS l sh1 = 5
  · rw [if_pos h1]
    obtain ⟨a1, a2⟩ := h1
    obtain ⟨t0, t1, t2, t3, t4, rfl⟩ := len5 (a1.symm.trans a2)
    obtain ⟨k0, a2⟩ := fits_pos (n := 4) a2
    obtain ⟨k1, a2⟩ := fits_pos (n := 3) a2
    obtain ⟨k2, a2⟩ := fits_pos (n := 2) a2
    obtain ⟨k3, a2⟩ := fits_pos (n := 1) a2
    obtain ⟨k4, a2⟩ := fits_pos (n := 0) a2
    simp only [tx, List.getD_eq_getElem?_getD, List.getElem?_cons_zero, List.getElem?_cons_succ, Option.getD_some]
    rw [rightS1, isRole_of (ho t0 (by simp)) (ho t2 (by simp)) k0 k2 (bl_mk _) (bl_mk _), bl_mk, (ho t4 (by simp)).1 k4, eqSt_self]; rfl
  rw [if_neg h1] at h ⊢
  by_cases h2 : fitsS l sh2 = l.length ∧ fitsS l sh2 = 7
  · rw [if_pos h2]
    obtain ⟨a1, a2⟩ := h2
    obtain ⟨t0, t1, t2, t3, t4, t5, t6, rfl⟩ := len7 (a1.symm.trans a2)
    obtain ⟨k0, a2⟩ := fits_pos (n := 6) a2
    obtain ⟨k1, a2⟩ := fits_pos (n := 5) a2
    obtain ⟨k2, a2⟩ := fits_pos (n := 4) a2
    obtain ⟨k3, a2⟩ := fits_pos (n := 3) a2
    obtain ⟨k4, a2⟩ := fits_pos (n := 2) a2
    obtain ⟨k5, a2⟩ := fits_pos (n := 1) a2
    obtain ⟨k6, a2⟩ := fits_pos (n := 0) a2
    simp only [tx, List.getD_eq_getElem?_getD, List.getElem?_cons_zero, List.getElem?_cons_succ, Option.getD_some]
    rw [rightS2, isRole_of (ho t0 (by simp)) (ho t2 (by simp)) k0 k2 (bl_mk _) (bl_mk _), isRole_of (ho t4 (by simp)) (ho t6 (by simp)) k4 k6 (bl_mk _) (bl_mk _), eqSt_self]; rfl
  rw [if_neg h2] at h ⊢
  by_cases h3 : fitsS l sh3 = l.length ∧ fitsS l sh3 = 9
  · rw [if_pos h3]
    obtain ⟨a1, a2⟩ := h3
    obtain ⟨t0, t1, t2, t3, t4, t5, t6, t7, t8, rfl⟩ := len9 (a1.symm.trans a2)
    obtain ⟨k0, a2⟩ := fits_pos (n := 8) a2
    obtain ⟨k1, a2⟩ := fits_pos (n := 7) a2
    obtain ⟨k2, a2⟩ := fits_pos (n := 6) a2
    obtain ⟨k3, a2⟩ := fits_pos (n := 5) a2
    obtain ⟨k4, a2⟩ := fits_pos (n := 4) a2
    obtain ⟨k5, a2⟩ := fits_pos (n := 3) a2
    obtain ⟨k6, a2⟩ := fits_pos (n := 2) a2
    obtain ⟨k7, a2⟩ := fits_pos (n := 1) a2
    obtain ⟨k8, a2⟩ := fits_pos (n := 0) a2
    simp only [tx, List.getD_eq_getElem?_getD, List.getElem?_cons_zero, List.getElem?_cons_succ, Option.getD_some]
    rw [rightS3, isRole_of (ho t0 (by simp)) (ho t2 (by simp)) k0 k2 (bl_mk _) (bl_mk _), isRole_of (ho t4 (by simp)) (ho t6 (by simp)) k4 k6 (bl_mk _) (bl_mk _), bl_mk, (ho t8 (by simp)).2 k8, eqSt_self]; rfl
  rw [if_neg h3] at h ⊢
  by_cases h4 : fitsS l sh4 = l.length ∧ fitsS l sh4 = 11
  · rw [if_pos h4]
    obtain ⟨a1, a2⟩ := h4
    obtain ⟨t0, t1, t2, t3, t4, t5, t6, t7, t8, t9, t10, rfl⟩ := len11 (a1.symm.trans a2)
    obtain ⟨k0, a2⟩ := fits_pos (n := 10) a2
    obtain ⟨k1, a2⟩ := fits_pos (n := 9) a2
    obtain ⟨k2, a2⟩ := fits_pos (n := 8) a2
    obtain ⟨k3, a2⟩ := fits_pos (n := 7) a2
    obtain ⟨k4, a2⟩ := fits_pos (n := 6) a2
    obtain ⟨k5, a2⟩ := fits_pos (n := 5) a2
    obtain ⟨k6, a2⟩ := fits_pos (n := 4) a2
    obtain ⟨k7, a2⟩ := fits_pos (n := 3) a2
    obtain ⟨k8, a2⟩ := fits_pos (n := 2) a2
    obtain ⟨k9, a2⟩ := fits_pos (n := 1) a2
    obtain ⟨k10, a2⟩ := fits_pos (n := 0) a2
    simp only [tx, List.getD_eq_getElem?_getD, List.getElem?_cons_zero, List.getElem?_cons_succ, Option.getD_some]
    exact right_normal _ _ _ (isRole_of (ho t0 (by simp)) (ho t2 (by simp)) k0 k2 (bl_mk _) (bl_mk _)) (isRole_of (ho t4 (by simp)) (ho t6 (by simp)) k4 k6 (bl_mk _) (bl_mk _)) (isRole_of (ho t8 (by simp)) (ho t10 (by simp)) k8 k10 (bl_mk _) (bl_mk _))
  rw [if_neg h4] at h
  unfold refEnd at h
  split at h <;> cases h
theorem parse_right (s : ByteArray) (h : (parseS s).2.2 = 0) : rightS (parseS s).1 = true := by
  unfold parseS at h ⊢
  by_cases h0 : (tokens (bl s)).2.2 = 0
  · have e : parseT (tokens (bl s)) (endOf s) = refS (tokens (bl s)).1 (endOf s) := (parseT_good h0).trans (law_parse _ _)
    rw [e] at h ⊢
    exact refS_right _ _ (tokens_ok _) h
  · rw [parseT_bad h0] at h; exact absurd h h0

theorem isP_len {lo hi : Int} {w : List UInt8} (h : isP lo hi w = true) : 1 ≤ w.length ∧ w.length ≤ 8 := by
  match w, h with
  | c :: w, h =>
    simp only [isP, Bool.and_eq_true, decide_eq_true_iff] at h
    exact ⟨by simp, h.1.1⟩
theorem isP_plain {lo hi : Int} {w : List UInt8} (h : isP lo hi w = true) : ∀ c ∈ w, ¬ c = 35 := by
  match w, h with
  | c :: w, h =>
    simp only [isP, Bool.and_eq_true, decide_eq_true_iff] at h
    intro x hx e
    have := List.all_eq_true.1 h.2 x hx
    rw [e] at this
    exact absurd this (by decide)
theorem isRole_iff (o n : ByteArray) : isRole ⟨o, n⟩ = true ↔ isP 65 90 (bl o) = true ∧ isP 97 122 (bl n) = true := by simp [isRole]
end Go.Proofs.YtnhkgfgbhedphaaGreatDoor
namespace Go.Proofs.YtnhkgfgbhedphaaGreatDoor
open Go.RowKit Go.Shelf

theorem sb_size : (Tryz.prog.info? 92).map (·.size) = some 2 := by kernel_rfl
theorem sb_lies : liesAt Tryz.prog Tryz.prog.depth 92 (2 / Tryz.prog.cellsOf 92) 0 92 1 = true := by kernel_rfl
theorem sb_byte : (Tryz.prog.info? 5).map (fun i => (i.zero, i.size, i.bytes)) = some (some (.int .u8 0), 1, 1) := by kernel_rfl

set_option maxRecDepth 100000 in
set_option maxHeartbeats 1000000 in
theorem sb_copyCheck_used (b : Nat) (w : World) (h0 : w.cell? ⟨b, 0, none⟩ = some (.pointer (some ⟨b, 0, none⟩))) :
    Calls Tryz.prog 119 #[.pointer (some ⟨b, 0, none⟩)] w fun e w' => e = .returned (.tuple #[]) ∧ w' = w := by
  obtain ⟨j, hj, _⟩ := Option.map_eq_some_iff.1 sb_size
  go_enter Tryz.func119, Tryz.ntmps119
  go_wp2
  rw [Lib.run_neq_ptr_same w _ Tryz.underlying90 hj]
  go_wp2
  go_end0
  exact ⟨rfl, rfl⟩

set_option maxRecDepth 100000 in
set_option maxHeartbeats 1000000 in
theorem sb_copyCheck_fresh (b : Nat) (w : World) (h0 : w.cell? ⟨b, 0, none⟩ = some (.pointer none)) (hsh : w.shape? b = some (92, 2)) (hfz : w.frozen? ⟨b, 0, none⟩ = false) :
    Calls Tryz.prog 119 #[.pointer (some ⟨b, 0, none⟩)] w fun e w' => e = .returned (.tuple #[]) ∧ w' = w.setCell ⟨b, 0, none⟩ (.pointer (some ⟨b, 0, none⟩)) := by
  obtain ⟨j, hj, hjs⟩ := Option.map_eq_some_iff.1 sb_size
  go_enter Tryz.func119, Tryz.ntmps119
  go_wp2
  rw [Lib.run_to_unsafe w ⟨b, 0, none⟩ Tryz.underlying90 Tryz.underlying206 hj (by rw [hjs]; decide) hsh (Nat.zero_lt_succ 1)]
  simp only [Result.andThen]
  rw [Oper.upon_value]
  go_wp2
  rw [run_callFunc_extern Tryz.func186 (by kernel_rfl) (by kernel_rfl) (by kernel_rfl) (e := Extern.AbiNoEscape.same) (by kernel_rfl)]
  rw [Lib.run_noEscape]
  simp only [Result.andThen]
  rw [Oper.upon_value]
  go_wp2
  rw [Lib.run_from_unsafe w ⟨b, 0, none⟩ Tryz.underlying206 Tryz.underlying90 hj hsh sb_lies]
  simp only [Result.andThen]
  rw [Oper.upon_value]
  go_wp2
  go_end0
  exact ⟨rfl, rfl⟩

abbrev SbAt (B b : Nat) (l : List UInt8) (w : World) : Prop := Lib.IsBuilderF 92 5 B b (Lib.byteCells l) w

theorem sb_copyCheck (B b : Nat) (bs : List Value) (w : World) (h : Lib.IsBuilderF 92 5 B b bs w) :
    Calls Tryz.prog 119 #[.pointer (some ⟨b, 0, none⟩)] w fun e w' => e = .returned (.tuple #[]) ∧ (Lib.BuilderAtF 92 5 B b (.pointer (some ⟨b, 0, none⟩)) bs w' ∧ Below B w w' ∧ Lib.OthersKept 5 (some b) w w') := by
  rcases h with h | h
  · refine (sb_copyCheck_fresh b w h.cell0 h.shape h.frozen0).mono ?_
    rintro e w' ⟨rfl, rfl⟩
    exact ⟨rfl, h.used _, (Below.refl B w).setCell (p := ⟨b, 0, none⟩) h.1 _, (Lib.OthersKept.refl _ _ w).setCell ⟨b, 0, none⟩ rfl _⟩
  · refine (sb_copyCheck_used b w h.cell0).mono ?_
    rintro e w' ⟨rfl, rfl⟩
    exact ⟨rfl, h, Below.refl B _, Lib.OthersKept.refl _ _ _⟩

theorem strCells_eq (s : ByteArray) : Lib.strCells s = Lib.byteCells (bl s) := rfl

set_option maxHeartbeats 2000000 in
set_option maxRecDepth 100000 in
theorem sb_WriteString (B b : Nat) (l : List UInt8) (s : ByteArray) (w : World) (h : SbAt B b l w) (hlen : l.length + s.size ≤ 140737488355328) (hBw : B ≤ w.heap.size) :
    Calls Tryz.prog 69 #[.pointer (some ⟨b, 0, none⟩), .string s] w fun e w' => e = .returned (.tuple #[.int .i64 s.size, .nilIface]) ∧ (SbAt B b (l ++ bl s) w' ∧ Below B w w' ∧ Lib.OthersKept 5 (some b) w w') := by
  obtain ⟨i0, hi, hz0, hz1, hz2⟩ := info_parts sb_byte
  have hlen' : (Lib.byteCells l).length + s.size ≤ 140737488355328 := by simpa [Lib.byteCells] using hlen
  have H := Lib.hid h
  have HL := Lib.hid hlen'
  clear h hlen hlen'
  go_enter Tryz.func69, Tryz.ntmps69
  go_wp2_with (go_at_call 119; refine (sb_copyCheck B b _ _ H.out).mono ?_)
  rintro e w1 ⟨rfl, h1, hb1, hk1⟩
  obtain ⟨hB, v, hbk, hown, hne⟩ := h1
  have c0 : w1.cell? ⟨b, 0, none⟩ = some (.pointer (some ⟨b, 0, none⟩)) := by rw [Lib.cell_of_heap hbk]; rfl
  have c1 : w1.cell? ⟨b, 1, none⟩ = some v := by rw [Lib.cell_of_heap hbk]; rfl
  go_wp2_with (at_builtin; refine Lib.wpList_append_own_stringF _ rfl _ _ 59 9 rfl B 5 i0 Tryz.underlying59 Tryz.underlying9 hi hz0 hz1 hz2 _ _ _ rfl hown s rfl ?c3 ?c4 ?c5 ?_)
  case c3 => have := HL.out; unfold maxLen; omega
  case c4 => exact HL.out
  case c5 => have := hb1.size; omega
  intro v' w2 hown' hgrow _
  have hlt : b < w1.heap.size := by
    rcases Nat.lt_or_ge b w1.heap.size with h' | h'
    · exact h'
    · simp [Array.getElem?_eq_none h'] at hbk
  have hb2 : w2.heap[b]? = some (.cells #[.pointer (some ⟨b, 0, none⟩), v] 92 (0, 0)) := by
    rw [hgrow.block b hlt (fun e => hne e.symm)]
    exact hbk
  have d0 : w2.cell? ⟨b, 0, none⟩ = some (.pointer (some ⟨b, 0, none⟩)) := by rw [Lib.cell_of_heap hb2]; rfl
  have d1 : w2.cell? ⟨b, 1, none⟩ = some v := by rw [Lib.cell_of_heap hb2]; rfl
  have f1 : w2.frozen? ⟨b, 1, none⟩ = false := Lib.frozen_of_heap hb2 1
  obtain ⟨ao, n', cap, rfl⟩ : ∃ ao n' cap, v' = .slice ao n' cap := by
    rcases hown'.2 with ⟨hv, _⟩ | ⟨g, cap, cur, fz, hv, _⟩
    · exact ⟨_, _, _, hv⟩
    · exact ⟨_, _, _, hv⟩
  go_wp2
  go_ret2
  refine ⟨rfl, ?_, ?_, (hk1.grown hgrow (Lib.ownsRowF_kind hown)).setCell ⟨b, 1, none⟩ rfl _⟩
  · have e1 : Lib.byteCells (l ++ bl s) = Lib.byteCells l ++ Lib.strCells s := by rw [strCells_eq]; simp [Lib.byteCells]
    unfold SbAt
    rw [e1]
    exact .inr (Lib.BuilderAtF.put (T := 92) (e := 5) hB hb2 (bs' := Lib.byteCells l ++ Lib.strCells s) (by simpa [Lib.strCells_length] using hown') (by decide))
  · exact (hb1.grown hgrow (by have := hb1.size; omega) (fun k hk => (hown.lt k hk).1)).setCell (p := ⟨b, 1, none⟩) hB _
theorem sb_new (w : World) (B : Nat) (hB : B ≤ w.heap.size) : SbAt B w.heap.size [] (w.alloc (.cells #[.pointer none, .slice none 0 0] 92)) :=
  .inl ⟨hB, .slice none 0 0, heap_new1 _ _, ⟨by simp [Lib.byteCells], .inl ⟨rfl, rfl⟩⟩, by simp [Value.ownBlock]⟩
end Go.Proofs.YtnhkgfgbhedphaaGreatDoor
namespace Go.Proofs.YtnhkgfgbhedphaaGreatDoor
open Go.RowKit Go.Shelf

set_option maxHeartbeats 2000000 in
set_option maxRecDepth 1000000 in
theorem sb_grow_fresh (B b n : Nat) (w : World) (hB : B ≤ b) (hbk : w.heap[b]? = some (.cells #[.pointer (some ⟨b, 0, none⟩), .slice none 0 0] 92 (0, 0))) (hBw : B ≤ w.heap.size) (hn : n ≤ 281474976710656) :
    Calls Tryz.prog 187 #[.pointer (some ⟨b, 0, none⟩), .int .i64 n] w fun e w' => e = .returned (.tuple #[]) ∧ (Lib.BuilderAt 92 5 B b (.pointer (some ⟨b, 0, none⟩)) [] w' ∧ Below B w w') := by
  obtain ⟨i0, hi, hz0, hz1, hz2⟩ := info_parts sb_byte
  obtain ⟨cs, hrun, hle, hmax⟩ := Lib.run_makeNoZero (P := Tryz.prog) w.drew #[3] 59 5 Tryz.underlying59 n hn
  have hw : IntKind.i64.wrap (IntKind.i64.wrap 0 + (n : Int)) = n := by
    rw [IntKind.wrap_i64, IntKind.wrap_i64]
    omega
  have hcall : (callFunc 224 #[.int .i64 (IntKind.i64.wrap (IntKind.i64.wrap 0 + (n : Int)))]).run Tryz.prog w.drew = .ok (.value (.slice (some ⟨w.drew.heap.size, 0, none⟩) n cs.size)) (w.drew.drew.drew.alloc (.cells cs 5)) := by
    rw [hw, run_callFunc_extern Tryz.func224 (by kernel_rfl) (by kernel_rfl) (by kernel_rfl) (e := Extern.BytealgMakeNoZero.makeNoZero #[3] #[59]) (by kernel_rfl), hrun]
    rfl
  have c1 : w.drew.cell? ⟨b, 1, none⟩ = some (.slice none 0 0) := by
    have : w.drew.heap[b]? = _ := hbk
    rw [Lib.cell_of_heap this]; rfl
  have c2 : (w.alloc (.cells cs 5)).cell? ⟨b, 1, none⟩ = some (.slice none 0 0) := by
    have hlt : b < w.heap.size := by
      rcases Nat.lt_or_ge b w.heap.size with h' | h'
      · exact h'
      · simp [Array.getElem?_eq_none h'] at hbk
    have : (w.alloc (.cells cs 5)).heap[b]? = _ := (Lib.alloc_old w _ b hlt).trans hbk
    rw [Lib.cell_of_heap this]; rfl
  have f2 : (w.alloc (.cells cs 5)).frozen? ⟨b, 1, none⟩ = false := by
    have hlt : b < w.heap.size := by
      rcases Nat.lt_or_ge b w.heap.size with h' | h'
      · exact h'
      · simp [Array.getElem?_eq_none h'] at hbk
    exact Lib.frozen_of_heap ((Lib.alloc_old w _ b hlt).trans hbk) 1
  have hcopy : ∀ W : World, (Builtin.copy_ #[59, 59] 3 #[.slice (some ⟨w.heap.size, 0, none⟩) 0 cs.size, .slice none 0 0]).run Tryz.prog W = .ok (goInt 0) W :=
    fun W => run_copy_none W 59 59 3 5 _ _ 0 cs.size 0 0 Tryz.underlying59 (by rw [hi]; exact congrArg some hz1) rfl
  clear hw
  go_enter Tryz.func187, Tryz.ntmps187
  go_wp2
  have hfin := Lib.grown_fresh (T := 92) (e := 5) (cs := cs) hB hbk hBw (hmax (by unfold maxLen; omega)) (by decide)
  go_region
  all_goals (go_wp2; go_end0; exact ⟨rfl, hfin⟩)

set_option maxHeartbeats 2000000 in
set_option maxRecDepth 1000000 in
theorem sb_Grow_fresh (B b n : Nat) (w : World) (hB : B ≤ b) (hbk : w.heap[b]? = some (.cells #[.pointer none, .slice none 0 0] 92 (0, 0))) (hBw : B ≤ w.heap.size) (hn : n ≤ 281474976710656) :
    Calls Tryz.prog 120 #[.pointer (some ⟨b, 0, none⟩), .int .i64 n] w fun e w' => e = .returned (.tuple #[]) ∧ (Lib.BuilderAt 92 5 B b (.pointer (some ⟨b, 0, none⟩)) [] w' ∧ Below B w w') := by
  have hbk1 : (w.setCell ⟨b, 0, none⟩ (.pointer (some ⟨b, 0, none⟩))).heap[b]? = some (.cells #[.pointer (some ⟨b, 0, none⟩), .slice none 0 0] 92 (0, 0)) := by
    simp [World.setCell, Array.getElem?_modify, hbk]
  have c1 : (w.setCell ⟨b, 0, none⟩ (.pointer (some ⟨b, 0, none⟩))).cell? ⟨b, 1, none⟩ = some (.slice none 0 0) := by rw [Lib.cell_of_heap hbk1]; rfl
  have hb1 : Below B w (w.setCell ⟨b, 0, none⟩ (.pointer (some ⟨b, 0, none⟩))) := (Below.refl B w).setCell (p := ⟨b, 0, none⟩) hB _
  go_enter Tryz.func120, Tryz.ntmps120
  have hU : Lib.BuilderAt 92 5 B b (.pointer (some ⟨b, 0, none⟩)) [] (w.setCell ⟨b, 0, none⟩ (.pointer (some ⟨b, 0, none⟩))) := ⟨hB, .slice none 0 0, hbk1, World.ownsRow_nil _ _ _ _, by simp [Value.ownBlock]⟩
  have c1' : (w.setCell ⟨b, 0, none⟩ (.pointer (some ⟨b, 0, none⟩))).drew.cell? ⟨b, 1, none⟩ = some (.slice none 0 0) := c1
  go_wp2_with (go_at_call 119; refine (sb_copyCheck_fresh b w (by rw [Lib.cell_of_heap hbk]; rfl) (by simp [World.shape?, hbk]) (Lib.frozen_of_heap hbk 0)).mono ?_; rintro e w' ⟨rfl, rfl⟩)
  go_region
  all_goals go_wp2_with (go_at_call 187; refine (sb_grow_fresh B b n (w.setCell ⟨b, 0, none⟩ (.pointer (some ⟨b, 0, none⟩))).drew hB hbk1 (by simpa [World.setCell, World.drew, -World.drew_eq] using hBw) hn).mono ?_; rintro e w' ⟨rfl, h1, h2⟩)
  all_goals first
    | (go_end0; exact ⟨rfl, h1, hb1.drew.trans h2⟩)
    | (go_end0; exact ⟨rfl, hU.drew, hb1.drew⟩)

def joinB (xs : List ByteArray) (sep : ByteArray) : ByteArray := ⟨(Lib.join (xs.map bl) (bl sep)).toArray⟩
set_option maxRecDepth 100000 in
set_option maxHeartbeats 1000000 in
theorem str_Join_none (a : Option Addr) (c : Nat) (sep : ByteArray) (w : World) :
    Calls Tryz.prog 70 #[.slice a 0 c, .string sep] w fun e w' => e = .returned (.string ⟨#[]⟩) ∧ w' = w := by
  go_enter Tryz.func70, Tryz.ntmps70
  go_wp2
  go_ret
  exact ⟨rfl, rfl⟩
set_option maxRecDepth 100000 in
set_option maxHeartbeats 1000000 in
theorem str_Join_one (bk o c : Nat) (x sep : ByteArray) (w : World) (hc : w.cell? ⟨bk, o, none⟩ = some (.string x)) :
    Calls Tryz.prog 70 #[.slice (some ⟨bk, o, none⟩) 1 c, .string sep] w fun e w' => e = .returned (.string x) ∧ w' = w := by
  go_enter Tryz.func70, Tryz.ntmps70
  go_wp2
  go_ret
  exact ⟨rfl, rfl⟩
set_option maxHeartbeats 8000000 in
set_option maxRecDepth 100000 in
theorem str_Join_many (bk o c : Nat) (xs : List ByteArray) (sep : ByteArray) (w : World)
    (hcells : ∀ (j : Nat) x, xs[j]? = some x → w.cell? ⟨bk, o + j, none⟩ = some (.string x))
    (hbk : bk < w.heap.size) (h2 : 2 ≤ xs.length) (hN : xs.length ≤ 140737488355328) (hcap : xs.length ≤ c)
    (hlen : (Lib.join (xs.map (·.data.toList)) sep.data.toList).length ≤ 140737488355328) :
    Calls Tryz.prog 70 #[.slice (some ⟨bk, o, none⟩) xs.length c, .string sep] w fun e w' => e = .returned (.string ⟨(Lib.join (xs.map (·.data.toList)) sep.data.toList).toArray⟩) ∧ Below w.heap.size w w' := by
  have HC := Any.hidJ hcells
  clear hcells
  obtain ⟨x0, r, hxs⟩ : ∃ x0 r, xs = x0 :: r := by
    cases xs with
    | nil => simp at h2
    | cons a t => exact ⟨a, t, rfl⟩
  have hjl : sep.size * (xs.length - 1) + Lib.lens (xs.map (·.data.toList)) ≤ 140737488355328 := by
    have := Lib.join_length x0.data.toList (r.map (·.data.toList)) sep.data.toList
    rw [hxs] at hlen ⊢
    simp only [List.map_cons] at hlen ⊢
    rw [this, List.length_map] at hlen
    rw [Lib.size_eq, List.length_cons, Nat.add_sub_cancel]
    exact hlen
  have hmul : sep.size * (xs.length - 1) ≤ 140737488355328 := by omega
  generalize hM : sep.size * (xs.length - 1) = M at hjl hmul
  have hcast : ((xs.length : Int) - 1) = ((xs.length - 1 : Nat) : Int) := by omega
  have hlt : sep.size < 9223372036854775807 / (xs.length - 1) := by
    have : sep.size + 1 ≤ 9223372036854775807 / (xs.length - 1) := by
      rw [Nat.le_div_iff_mul_le (by omega), Nat.add_mul, hM]
      omega
    omega
  have hdv : ¬ (9223372036854775807 / ((xs.length : Int) - 1) ≤ (sep.size : Int)) := by
    have e : (9223372036854775807 : Int) / ((xs.length - 1 : Nat) : Int) = ((9223372036854775807 / (xs.length - 1) : Nat) : Int) := IntWalk.up_div (x := 9223372036854775807) rfl rfl
    rw [hcast, e]
    generalize 9223372036854775807 / (xs.length - 1) = q at hlt
    omega
  have hprod : wrap64 ((sep.size : Int) * ((xs.length : Int) - 1)) = (M : Int) := by
    have e : (sep.size : Int) * ((xs.length - 1 : Nat) : Int) = ((sep.size * (xs.length - 1) : Nat) : Int) := IntWalk.up_mul rfl rfl
    rw [hcast, e, hM]
    exact IntWalk.wrap64_in _ ⟨by omega, by omega⟩
  have hM0 : sep.size = 0 → M = 0 := fun h => by rw [← hM, h, Nat.zero_mul]
  clear hlt hcast
  have hne0 : ((xs.length : Int) == 0) = false := beq_eq_false_iff_ne.2 (by omega)
  have hne1 : ((xs.length : Int) == 1) = false := beq_eq_false_iff_ne.2 (by omega)
  have Hxs := Any.hidJ hxs
  have Hlen := Any.hidJ hlen
  clear hxs hlen
  go_enter Tryz.func70, Tryz.ntmps70
  go_wp2_with fail
  all_goals (
    go_loop [5, 41] (fun n i => ∃ k : Nat, k ≤ xs.length ∧ i = .int .i64 k ∧ n = .int .i64 ((M + Lib.lens ((xs.map (·.data.toList)).take k) : Nat) : Int)) (fun _ i => xs.length - (intOf i).toNat)
    case atStart => exact ⟨0, Nat.zero_le _, rfl, by first | (simp [Lib.lens]; done) | (have := hM0 (by omega); simp [Lib.lens, this])⟩
    case round =>
      obtain ⟨k, hk, rfl, rfl⟩ := hrel
      by_cases hkn : k < xs.length
      · obtain ⟨x, hx⟩ : ∃ x, xs[k]? = some x := ⟨xs[k], List.getElem?_eq_getElem hkn⟩
        have hc := HC.out k x hx
        have hstep := Lib.lens_take_succ (xs.map (·.data.toList)) k x.data.toList (by simp [hx])
        have hbound : Lib.lens ((xs.map (·.data.toList)).take (k + 1)) ≤ Lib.lens (xs.map (·.data.toList)) := Lib.lens_take_le _ _
        rw [← Lib.size_eq] at hstep
        generalize hA1 : Lib.lens ((xs.map (·.data.toList)).take (k + 1)) = A1 at hstep hbound
        generalize Lib.lens ((xs.map (·.data.toList)).take k) = A0 at hstep
        have HA1 := Any.hidJ hA1
        clear hA1
        go_wp2
        exact ⟨⟨k + 1, by omega, by go_num, by rw [HA1.out]; refine congrArg _ ?_; omega⟩, by simp [intOf]; omega⟩
      · have hke : k = xs.length := by omega
        subst hke
        have hall : (xs.map (·.data.toList)).take xs.length = xs.map (·.data.toList) := List.take_of_length_le (by simp)
        rw [hall]
        generalize hT : Lib.lens (xs.map (·.data.toList)) = T at hjl
        have HT := Any.hidJ hT
        clear hT hall
        go_wp2_with fail
        have hMT : ((M : Int) + (T : Int)) = ((M + T : Nat) : Int) := by omega
        rw [hMT]
        refine (sb_Grow_fresh w.heap.size w.heap.size (M + T) _ (Nat.le_refl _) (heap_alloc_new w _) (by simp) (by omega)).mono ?_
        rintro e w1 ⟨rfl, h1, hb1⟩
        have hb1' : Below w.heap.size w w1 := ((Below.refl w.heap.size w).alloc (Nat.le_refl _) _).trans hb1
        have hx0 : xs[0]? = some x0 := by rw [Hxs.out]; rfl
        have hc0 : w1.cell? ⟨bk, o, none⟩ = some (.string x0) := by
          rw [hb1'.cell (p := ⟨bk, o, none⟩) hbk]
          exact HC.out 0 x0 hx0
        have H1 := Any.hidJ (Or.inr (Lib.BuilderAtF.of h1) : SbAt w.heap.size w.heap.size [] w1)
        have Hb1 := Any.hidJ hb1'
        have hBw1 : w.heap.size ≤ w1.heap.size := hb1'.size
        clear h1 hb1 hb1' hMT
        have hwhole : Lib.join (xs.map (·.data.toList)) sep.data.toList = x0.data.toList ++ Lib.joinTail sep.data.toList (r.map (·.data.toList)) := by
          rw [Hxs.out, List.map_cons, Lib.join_cons]
        have hCle : ∀ k, (x0.data.toList ++ Lib.joinTail sep.data.toList ((r.map (·.data.toList)).take k)).length ≤ 140737488355328 := fun k => by
          have h1 := Hlen.out
          rw [hwhole, List.length_append] at h1
          have h2 := Lib.joinTail_take_le sep.data.toList (r.map (·.data.toList)) k
          rw [List.length_append]
          omega
        have HCle := Any.hidJ hCle
        have Hwhole := Any.hidJ hwhole
        clear hCle hwhole
        go_wp2_with fail
        refine (sb_WriteString w.heap.size w.heap.size [] x0 w1 H1.out (by have := HCle.out 0; simp [Lib.joinTail] at this ⊢; omega) hBw1).mono ?_
        rintro e w2 ⟨rfl, h2', hb2, _⟩
        have hstart : ([] : List UInt8) ++ bl x0 = x0.data.toList ++ Lib.joinTail sep.data.toList ((r.map (·.data.toList)).take 0) := by
          simp [Lib.joinTail, bl]
        rw [hstart] at h2'
        have H2 := Any.hidJ h2'
        have Hb2 := Any.hidJ (Hb1.out.trans hb2)
        clear h2' hb2 hstart
        have hrl : r.length = xs.length - 1 := by rw [Hxs.out]; simp
        go_wp2_with fail
        go_loopw [65] (fun i wr => ∃ k : Nat, k ≤ r.length ∧ i = .int .i64 k ∧ Hid (SbAt w.heap.size w.heap.size (x0.data.toList ++ Lib.joinTail sep.data.toList ((r.map (·.data.toList)).take k)) wr) ∧ Hid (Below w.heap.size w wr)) (fun i _ => r.length - (intOf i).toNat)
        case atStart => exact ⟨0, Nat.zero_le _, rfl, H2, Hb2⟩
        case round =>
          obtain ⟨k, hk', rfl, HB, HW⟩ := hrel
          by_cases hkr : k < r.length
          · obtain ⟨y, hy⟩ : ∃ y, r[k]? = some y := ⟨r[k], List.getElem?_eq_getElem hkr⟩
            have hxy : xs[k + 1]? = some y := by rw [Hxs.out]; simpa using hy
            have hcy : wr.cell? ⟨bk, o + 1 + k, none⟩ = some (.string y) := by
              rw [HW.out.cell (p := ⟨bk, o + 1 + k, none⟩) hbk, show o + 1 + k = o + (k + 1) by omega]
              exact HC.out (k + 1) y hxy
            have hBw : w.heap.size ≤ wr.heap.size := HW.out.size
            have hnext : x0.data.toList ++ Lib.joinTail sep.data.toList ((r.map (·.data.toList)).take k) ++ bl sep ++ bl y = x0.data.toList ++ Lib.joinTail sep.data.toList ((r.map (·.data.toList)).take (k + 1)) := by
              rw [Lib.joinTail_take_succ sep.data.toList (r.map (·.data.toList)) k y.data.toList (by simp [hy])]
              simp only [bl, List.append_assoc]
            have hl1 := HCle.out (k + 1)
            rw [Lib.joinTail_take_succ sep.data.toList (r.map (·.data.toList)) k y.data.toList (by simp [hy])] at hl1
            simp only [List.length_append, ← Lib.size_eq] at hl1
            have hl0 : (x0.data.toList ++ Lib.joinTail sep.data.toList ((r.map (·.data.toList)).take k)).length = x0.size + (Lib.joinTail sep.data.toList ((r.map (·.data.toList)).take k)).length := by
              rw [List.length_append, ← Lib.size_eq]
            have hl2 : (x0.data.toList ++ Lib.joinTail sep.data.toList ((r.map (·.data.toList)).take k) ++ bl sep).length = x0.size + (Lib.joinTail sep.data.toList ((r.map (·.data.toList)).take k)).length + sep.size := by
              rw [List.length_append, hl0, Lib.size_eq sep]
            generalize (Lib.joinTail sep.data.toList ((r.map (·.data.toList)).take k)).length = J at hl0 hl1 hl2
            have Hn := Any.hidJ hnext
            have HL0 := Any.hidJ hl0
            have HL2 := Any.hidJ hl2
            clear hnext hy hxy hl0 hl2
            go_wp2_with fail
            refine (sb_WriteString w.heap.size w.heap.size _ sep wr HB.out (by rw [HL0.out]; omega) hBw).mono ?_
            rintro e w3 ⟨rfl, h3, hb3, _⟩
            have hBw3 : w.heap.size ≤ w3.heap.size := Nat.le_trans hBw hb3.size
            have H3 := Any.hidJ h3
            have Hb3 := Any.hidJ hb3
            clear h3 hb3
            go_wp2_with fail
            refine (sb_WriteString w.heap.size w.heap.size _ y w3 H3.out (by rw [HL2.out]; omega) hBw3).mono ?_
            rintro e w4 ⟨rfl, h4, hb4, _⟩
            rw [Hn.out] at h4
            have H4 := Any.hidJ h4
            have Hb4 := Any.hidJ ((HW.out.trans Hb3.out).trans hb4)
            clear h4 hb4
            go_wp2
            exact ⟨⟨k + 1, by omega, by go_num, H4, Hb4⟩, by simp [intOf]; omega⟩
          · have hke : k = r.length := by omega
            subst hke
            have hfull : (r.map (·.data.toList)).take r.length = r.map (·.data.toList) := List.take_of_length_le (by simp)
            have hB' := HB.out
            rw [hfull, ← Hwhole.out] at hB'
            have hBw : w.heap.size ≤ wr.heap.size := HW.out.size
            go_wp2_with fail
            refine (Tryz.Builder_String_any_f w.heap.size w.heap.size _ wr hB' hBw).mono ?_
            rintro e w5 ⟨rfl, _, hb5⟩
            have Hb5 := Any.hidJ (HW.out.trans hb5)
            clear hb5 hB'
            go_wp2
            go_ret
            exact ⟨rfl, Hb5.out⟩)
theorem joinB_one (x sep : ByteArray) : joinB [x] sep = x := by unfold joinB; rw [List.map_cons, List.map_nil, Lib.join_one]
end Go.Proofs.YtnhkgfgbhedphaaGreatDoor
namespace Go.Proofs.YtnhkgfgbhedphaaGreatDoor
open Go.RowKit

def wordsL (k : Int) : List ByteArray := if k = 1 then [wHas] else if k = 2 then [wHave] else if k = 3 then [wWithin] else if k = 4 then [wBe, wEmpty] else if k = 5 then [wApart] else if k = 6 then [wIn] else []
def headW (k : Int) : ByteArray := if univB k = true then wAlways else wCan
def partsQ (q : Qd) : List ByteArray := headW q.k :: roleT q.a :: (wordsL q.k ++ ((if secB q.k = true then [roleT q.b] else []) ++ q.us))
def tailL (xs : List ByteArray) : List UInt8 := (xs.map (fun x => 32 :: bl x)).flatten
theorem tailL_app (xs ys : List ByteArray) : tailL (xs ++ ys) = tailL xs ++ tailL ys := by simp [tailL]
theorem tailL_cons (x : ByteArray) (xs : List ByteArray) : tailL (x :: xs) = 32 :: (bl x ++ tailL xs) := by simp [tailL]
theorem word_isP' : ∀ x ∈ [wAlways, wCan, wHas, wHave, wWithin, wBe, wEmpty, wApart, wIn], isP 97 122 (bl x) = true := by decide
def lineQ (q : Qd) : List UInt8 := bl (headW q.k) ++ tailL (roleT q.a :: (wordsL q.k ++ ((if secB q.k = true then [roleT q.b] else []) ++ q.us)))
theorem parts_line (q : Qd) : bl (joinB (partsQ q) ⟨#[32]⟩) = lineQ q := by
  unfold joinB partsQ lineQ tailL
  rw [List.map_cons, Lib.join_cons, bl_mk]
  unfold Lib.joinTail
  rw [List.map_map]
  rfl
end Go.Proofs.YtnhkgfgbhedphaaGreatDoor
namespace Go.Proofs.YtnhkgfgbhedphaaGreatDoor
open Go.RowKit

structure GoodQ (q : Qd) : Prop where
  lo : 1 ≤ q.k
  hi : q.k ≤ 6
  a : isRole q.a = true
  p : ∀ x ∈ q.us, isP 65 90 (bl x) = true
  asc : AscB q.us
  few : q.us.length ≤ 12
  two : 5 ≤ q.k → isRole q.b = true
  one : ¬ 5 ≤ q.k → q.b = noR
  none : 4 ≤ q.k → q.us = []
  some : q.k ≤ 2 → ¬ q.us.length = 0
theorem isP_size' {lo hi : Int} {x : ByteArray} (h : isP lo hi (bl x) = true) : x.size ≤ 8 := by have := (isP_len h).2; rwa [bl_len] at this
theorem tailL_len (M : Nat) : ∀ (xs : List ByteArray), (∀ x ∈ xs, x.size ≤ M) → (tailL xs).length ≤ xs.length * (M + 1)
  | [], _ => by simp [tailL]
  | x :: r, h => by
    have h1 := tailL_len M r (fun y hy => h y (by simp [hy]))
    have h2 := h x (by simp)
    rw [tailL_cons, List.length_cons, List.length_append, bl_len, List.length_cons, Nat.succ_mul]
    omega
theorem tailL_plain : ∀ (xs : List ByteArray), (∀ x ∈ xs, ∀ c ∈ bl x, ¬ c = 35) → ∀ c ∈ tailL xs, ¬ c = 35
  | [], _ => fun c hc => by cases hc
  | x :: r, h => fun c hc => by
    rw [tailL_cons] at hc
    rcases List.mem_cons.1 hc with rfl | hc
    · decide
    rcases List.mem_append.1 hc with hc | hc
    · exact h x (by simp) c hc
    · exact tailL_plain r (fun y hy => h y (by simp [hy])) c hc
theorem role_plain {x : Rl} (h : isRole x = true) : ∀ c ∈ bl (roleT x), ¬ c = 35 := by
  simp only [isRole, Bool.and_eq_true] at h
  have e : bl (roleT x) = bl x.o ++ 46 :: bl x.n := by simp [roleT, bl]
  intro c hc
  rw [e] at hc
  rcases List.mem_append.1 hc with hc | hc
  · exact isP_plain h.1 c hc
  rcases List.mem_cons.1 hc with rfl | hc
  · decide
  · exact isP_plain h.2 c hc
theorem role_size {x : Rl} (h : isRole x = true) : (roleT x).size ≤ 17 := by
  simp only [isRole, Bool.and_eq_true] at h
  have h1 := isP_size' h.1
  have h2 := isP_size' h.2
  have e : (⟨#[46]⟩ : ByteArray).size = 1 := rfl
  simp only [roleT, ByteArray.size_append, e]
  omega
theorem words_len (k : Int) : (tailL (wordsL k)).length ≤ 9 := by
  unfold wordsL
  split
  · decide
  split
  · decide
  split
  · decide
  split
  · decide
  split
  · decide
  split <;> decide
theorem words_plain (k : Int) : ∀ c ∈ tailL (wordsL k), ¬ c = 35 := by
  unfold wordsL
  split
  · decide
  split
  · decide
  split
  · decide
  split
  · decide
  split
  · decide
  split <;> decide
theorem lineQ_app (q : Qd) : lineQ q = bl (headW q.k) ++ (32 :: (bl (roleT q.a) ++ (tailL (wordsL q.k) ++ (tailL (if secB q.k = true then [roleT q.b] else []) ++ tailL q.us)))) := by
  unfold lineQ
  rw [tailL_cons, tailL_app, tailL_app]
theorem lineQ_plain (q : Qd) (h : GoodQ q) : ∀ c ∈ lineQ q, ¬ c = 35 := by
  rw [lineQ_app]
  intro c hc
  rcases List.mem_append.1 hc with hc | hc
  · unfold headW at hc
    split at hc
    · exact isP_plain (word_isP' _ (by simp)) c hc
    · exact isP_plain (word_isP' _ (by simp)) c hc
  rcases List.mem_cons.1 hc with rfl | hc
  · decide
  rcases List.mem_append.1 hc with hc | hc
  · exact role_plain h.a c hc
  rcases List.mem_append.1 hc with hc | hc
  · exact words_plain _ c hc
  rcases List.mem_append.1 hc with hc | hc
  · refine tailL_plain _ (fun x hx => ?_) c hc
    split at hx
    · rename_i hs
      rw [List.mem_singleton.1 hx]
      refine role_plain (h.two ?_)
      unfold secB at hs
      simp only [Bool.or_eq_true, decide_eq_true_iff] at hs
      omega
    · cases hx
  · exact tailL_plain _ (fun x hx => isP_plain (h.p x hx)) c hc
theorem lineQ_len (q : Qd) (h : GoodQ q) : (lineQ q).length ≤ 200 := by
  rw [lineQ_app]
  have h1 : (bl (headW q.k)).length ≤ 6 := by unfold headW; split <;> decide
  have h2 := role_size h.a
  have h3 := words_len q.k
  have h4 : (tailL (if secB q.k = true then [roleT q.b] else [])).length ≤ 18 := by
    split
    · rename_i hs
      have hb := h.two (by unfold secB at hs; simp only [Bool.or_eq_true, decide_eq_true_iff] at hs; omega)
      have := role_size hb
      rw [tailL_cons]
      simp only [List.length_cons, List.length_append, bl_len]
      have e : (tailL []).length = 0 := rfl
      omega
    · exact Nat.zero_le _
  have h5 := tailL_len 8 q.us (fun x hx => isP_size' (h.p x hx))
  have h6 := h.few
  simp only [List.length_append, List.length_cons, bl_len] at h1 ⊢
  omega
theorem fit_pos {k : Int} {i n : Nat} {l : List Tok} (h : fitQ k i l = n + 1) : ∃ t r, l = t :: r ∧ goesQ k i t = true ∧ fitQ k (i + 1) r = n := by
  match l, h with
  | [], h => rw [fitQ_nil] at h; cases h
  | t :: r, h =>
    rw [fitQ_cons] at h
    by_cases hg : i < frontQ k ∧ goesQ k i t = true
    · rw [if_pos hg] at h
      exact ⟨t, r, rfl, hg.2, by omega⟩
    · rw [if_neg hg] at h; cases h
theorem okTok1 {t : Tok} (h : okTok t) (hk : t.kind = 1) : isP 65 90 (bl t.tx) = true := h.1 hk
theorem okTok2 {t : Tok} (h : okTok t) (hk : t.kind = 2) : isP 97 122 (bl t.tx) = true := h.2 hk
theorem okRole {t s : Tok} (h : okTok t) (hs : okTok s) (hk : t.kind = 1) (hk2 : s.kind = 2) : isRole ⟨t.tx, s.tx⟩ = true := by
  unfold isRole
  rw [okTok1 h hk, okTok2 hs hk2]; rfl
theorem rest_good (k : Int) (a b : Rl) (e : Int) : ∀ (l : List Tok) (acc : List ByteArray) (q : Qd) (p : Int), (∀ t ∈ l, okTok t) → AscB acc → (∀ x ∈ acc, isP 65 90 (bl x) = true) → acc.length ≤ 12 → restQ k ⟨k, a, b, acc⟩ e l = (q, p, 0) →
    p = 0 ∧ q.k = k ∧ q.a = a ∧ q.b = b ∧ AscB q.us ∧ (∀ x ∈ q.us, isP 65 90 (bl x) = true) ∧ q.us.length ≤ 12 ∧ (k ≤ 2 → ¬ q.us.length = 0) ∧ (4 ≤ k → q.us = acc)
  | [], acc, q, p, _, ha, hp, hn, h => by
    rw [restQ] at h
    by_cases hc : k ≤ 2 ∧ acc.length = 0
    · rw [if_pos hc] at h
      simp only [Prod.mk.injEq] at h
      exact absurd h.2.2 (by decide)
    · rw [if_neg hc] at h
      simp only [Prod.mk.injEq] at h
      obtain ⟨rfl, h2, _⟩ := h
      exact ⟨h2.symm, rfl, rfl, rfl, ha, hp, hn, fun h => fun h' => hc ⟨h, h'⟩, fun _ => rfl⟩
  | t :: l, acc, q, p, ho, ha, hp, hn, h => by
    rw [restQ] at h
    by_cases hc : k ≤ 3 ∧ t.kind = 1
    · rw [if_pos hc] at h
      dsimp only at h
      by_cases hm : 12 < (insSB acc t.tx).length
      · rw [if_pos hm] at h
        simp only [Prod.mk.injEq] at h
        exact absurd h.2.2 (by decide)
      · rw [if_neg hm] at h
        obtain ⟨e1, e2, e3, e4, e5, e6, e7, e8, _⟩ := rest_good k a b e l (insSB acc t.tx) q p (fun x hx => ho x (by simp [hx])) (insS_ascB ha _) (fun x hx => by
          rcases (insS_memB acc t.tx x).1 hx with hx | rfl
          · exact hp x hx
          · exact okTok1 (ho t (by simp)) hc.2) (by omega) h
        exact ⟨e1, e2, e3, e4, e5, e6, e7, e8, fun h => by omega⟩
    · rw [if_neg hc] at h
      simp only [Prod.mk.injEq] at h
      exact absurd h.2.2 (by decide)
theorem read_good (l : List Tok) (e : Int) (ho : ∀ t ∈ l, okTok t) (q : Qd) (p : Int) (h : readQ l e = (q, p, 0)) : GoodQ q ∧ p = 0 := by
  rw [law_query] at h
  have five : ∀ k : Int, k = 1 ∨ k = 2 ∨ k = 3 → fitQ k 0 l = 5 → kindQ k l e = (q, p, 0) → GoodQ q ∧ p = 0 := fun k hk hf h => by
    obtain ⟨t0, l0, rfl, g0', hf⟩ := fit_pos hf
    obtain ⟨t1, l1, rfl, g1', hf⟩ := fit_pos hf
    obtain ⟨t2, l2, rfl, g2', hf⟩ := fit_pos hf
    obtain ⟨t3, l3, rfl, g3', hf⟩ := fit_pos hf
    obtain ⟨t4, l4, rfl, g4', hf⟩ := fit_pos hf
    rw [g1] at g1'
    rw [g3] at g3'
    have hfr : frontQ k = 5 := by rcases hk with rfl | rfl | rfl <;> rfl
    unfold kindQ at h
    rw [hfr, if_neg (by omega)] at h
    have hr := okRole (ho t1 (by simp)) (ho t3 (by simp)) (of_decide_eq_true g1') (of_decide_eq_true g3')
    obtain ⟨e1, e2, e3, e4, e5, e6, e7, e8, e9⟩ := rest_good k _ _ e l4 [] q p (fun x hx => ho x (by simp [hx])) List.Pairwise.nil (fun x hx => by cases hx) (by simp) h
    exact ⟨⟨by omega, by omega, by rw [e3]; exact hr, e6, e5, e7, fun h => by omega, fun _ => e4, fun h => by omega, fun h => e8 (by omega)⟩, e1⟩
  have eight : ∀ k : Int, k = 5 ∨ k = 6 → fitQ k 0 l = 8 → kindQ k l e = (q, p, 0) → GoodQ q ∧ p = 0 := fun k hk hf h => by
    obtain ⟨t0, l0, rfl, g0', hf⟩ := fit_pos hf
    obtain ⟨t1, l1, rfl, g1', hf⟩ := fit_pos hf
    obtain ⟨t2, l2, rfl, g2', hf⟩ := fit_pos hf
    obtain ⟨t3, l3, rfl, g3', hf⟩ := fit_pos hf
    obtain ⟨t4, l4, rfl, g4', hf⟩ := fit_pos hf
    obtain ⟨t5, l5, rfl, g5', hf⟩ := fit_pos hf
    obtain ⟨t6, l6, rfl, g6', hf⟩ := fit_pos hf
    obtain ⟨t7, l7, rfl, g7', hf⟩ := fit_pos hf
    rw [g1] at g1'
    rw [g3] at g3'
    rw [g5] at g5'
    rw [g7] at g7'
    have d4 : decide (k = 4) = false := by rw [decide_eq_false_iff_not]; omega
    have d5 : decide (5 ≤ k) = true := by rw [decide_eq_true_iff]; omega
    rw [d4, d5, Bool.false_and, Bool.false_or, Bool.true_and] at g5'
    rw [d5, Bool.true_and] at g7'
    have hfr : frontQ k = 8 := by rcases hk with rfl | rfl <;> rfl
    unfold kindQ at h
    rw [hfr, if_pos (by omega)] at h
    have hr := okRole (ho t1 (by simp)) (ho t3 (by simp)) (of_decide_eq_true g1') (of_decide_eq_true g3')
    have hr2 := okRole (ho t5 (by simp)) (ho t7 (by simp)) (of_decide_eq_true g5') (of_decide_eq_true g7')
    obtain ⟨e1, e2, e3, e4, e5, e6, e7, e8, e9⟩ := rest_good k _ _ e l7 [] q p (fun x hx => ho x (by simp [hx])) List.Pairwise.nil (fun x hx => by cases hx) (by simp) h
    exact ⟨⟨by omega, by omega, by rw [e3]; exact hr, e6, e5, e7, fun _ => by rw [e4]; exact hr2, fun h => by omega, fun h => e9 (by omega), fun h => by omega⟩, e1⟩
  unfold refQ at h
  by_cases f1' : fitQ 1 0 l = 5
  · rw [if_pos f1'] at h; exact five 1 (by simp) f1' h
  rw [if_neg f1'] at h
  by_cases f2' : fitQ 2 0 l = 5
  · rw [if_pos f2'] at h; exact five 2 (by simp) f2' h
  rw [if_neg f2'] at h
  by_cases f3' : fitQ 3 0 l = 5
  · rw [if_pos f3'] at h; exact five 3 (by simp) f3' h
  rw [if_neg f3'] at h
  by_cases f4' : fitQ 4 0 l = 6
  · rw [if_pos f4'] at h
    obtain ⟨t0, l0, rfl, g0', hf⟩ := fit_pos f4'
    obtain ⟨t1, l1, rfl, g1', hf⟩ := fit_pos hf
    obtain ⟨t2, l2, rfl, g2', hf⟩ := fit_pos hf
    obtain ⟨t3, l3, rfl, g3', hf⟩ := fit_pos hf
    obtain ⟨t4, l4, rfl, g4', hf⟩ := fit_pos hf
    obtain ⟨t5, l5, rfl, g5', hf⟩ := fit_pos hf
    rw [g1] at g1'
    rw [g3] at g3'
    unfold kindQ at h
    rw [f4, if_neg (by decide)] at h
    have hr := okRole (ho t1 (by simp)) (ho t3 (by simp)) (of_decide_eq_true g1') (of_decide_eq_true g3')
    obtain ⟨e1, e2, e3, e4, e5, e6, e7, e8, e9⟩ := rest_good 4 _ _ e l5 [] q p (fun x hx => ho x (by simp [hx])) List.Pairwise.nil (fun x hx => by cases hx) (by simp) h
    exact ⟨⟨by omega, by omega, by rw [e3]; exact hr, e6, e5, e7, fun h => by omega, fun _ => e4, fun _ => e9 (by omega), fun h => by omega⟩, e1⟩
  rw [if_neg f4'] at h
  by_cases f5' : fitQ 5 0 l = 8
  · rw [if_pos f5'] at h; exact eight 5 (by simp) f5' h
  rw [if_neg f5'] at h
  by_cases f6' : fitQ 6 0 l = 8
  · rw [if_pos f6'] at h; exact eight 6 (by simp) f6' h
  rw [if_neg f6'] at h
  unfold endQ at h
  split at h <;> simp only [Prod.mk.injEq] at h <;> exact absurd h.2.2 (by decide)
def parseQT (t : List Tok × Int × Int) (e : Int) : Qd × Int × Int := if t.2.2 ≠ 0 then (noQd, t.2.1, t.2.2) else readQ t.1 e
def parseQ (s : ByteArray) : Qd × Int × Int := parseQT (tokens (bl s)) (endOf s)
def textQ (q : Qd) : ByteArray := joinB (partsQ q) ⟨#[32]⟩
theorem parse_goodQ (s : ByteArray) (h : (parseQ s).2.2 = 0) : GoodQ (parseQ s).1 ∧ (parseQ s).2.1 = 0 := by
  unfold parseQ parseQT at h ⊢
  by_cases h0 : (tokens (bl s)).2.2 = 0
  · rw [if_neg (fun x => x h0)] at h ⊢
    exact read_good _ (endOf s) (tokens_ok _) _ _ (Prod.ext rfl (Prod.ext rfl h))
  · rw [if_pos h0] at h
    exact absurd h h0
theorem textQ_size (q : Qd) (h : GoodQ q) : (textQ q).size ≤ 200 := by
  have := lineQ_len q h
  rw [← bl_len]
  unfold textQ
  rw [parts_line]
  exact this
end Go.Proofs.YtnhkgfgbhedphaaGreatDoor
namespace Go.Proofs.YtnhkgfgbhedphaaGreatDoor
open Go.RowKit Go.Shelf

theorem rises_asc {us : List ByteArray} (h : rises us = true) : (∀ x ∈ us, isP 65 90 (bl x) = true) ∧ AscB us := by
  unfold rises at h
  rw [List.all_eq_true] at h
  have h' : ∀ i, i < us.length → risesAt us i = true := fun i hi => h i (List.mem_range.2 hi)
  refine ⟨fun x hx => ?_, ?_⟩
  · obtain ⟨i, hi, rfl⟩ := List.getElem_of_mem hx
    have := h' i hi
    unfold risesAt at this
    rw [Bool.and_eq_true, getD_at hi] at this
    exact this.1
  · have adj : ∀ i (hi : i + 1 < us.length), cmpS us[i] us[i + 1] < 0 := fun i hi => by
      have := h' (i + 1) hi
      unfold risesAt at this
      rw [Bool.and_eq_true, Bool.or_eq_true, getD_at hi] at this
      rcases this.2 with e | e
      · exact absurd (of_decide_eq_true e) (by omega)
      · rw [Nat.add_sub_cancel, getD_at (by omega), ← str_less, decide_eq_true_iff] at e
        exact e
    have far : ∀ d i (hi : i + d + 1 < us.length), cmpS us[i] us[i + d + 1] < 0 := by
      intro d
      induction d with
      | zero => exact fun i hi => adj i hi
      | succ d ih => exact fun i hi => lt_trans'B (ih i (by omega)) (adj (i + d + 1) hi)
    exact List.pairwise_iff_getElem.2 fun i j hi hj hij => by
      obtain ⟨d, rfl⟩ : ∃ d, j = i + d + 1 := ⟨j - i - 1, by omega⟩
      exact far d i hj
theorem rises_of {us : List ByteArray} (hp : ∀ x ∈ us, isP 65 90 (bl x) = true) (ha : AscB us) : rises us = true := by
  refine rises_yes (k := us.length) (by omega) (fun j hj => ?_)
  unfold risesAt
  rw [getD_at hj, hp _ (List.getElem_mem hj), Bool.true_and, Bool.or_eq_true]
  by_cases h0 : j = 0
  · exact .inl (decide_eq_true h0)
  · refine .inr ?_
    rw [getD_at (by omega), ← str_less, decide_eq_true_iff]
    exact List.pairwise_iff_getElem.1 ha (j - 1) j (by omega) hj (by omega)
theorem good_of {q : Qv} {us : List ByteArray} (h : rightQ q us = true) : GoodQ ⟨q.k, q.a, q.b, us⟩ := by
  unfold rightQ at h
  simp only [Bool.and_eq_true, decide_eq_true_iff] at h
  obtain ⟨h1, h6, ha, hr, h⟩ := h
  obtain ⟨hp, hasc⟩ := rises_asc hr
  by_cases h5 : 5 ≤ q.k
  · rw [if_pos h5] at h
    simp only [Bool.and_eq_true, decide_eq_true_iff] at h
    obtain ⟨hb, hl⟩ := h
    exact ⟨h1, h6, ha, hp, hasc, by show us.length ≤ 12; omega, fun _ => hb, fun h => absurd h5 h, fun _ => List.eq_nil_of_length_eq_zero hl, fun h => by dsimp only at h; omega⟩
  · rw [if_neg h5] at h
    simp only [Bool.and_eq_true, decide_eq_true_iff, eqRl] at h
    obtain ⟨hb, hl, h⟩ := h
    by_cases h4 : q.k = 4
    · rw [if_pos h4, decide_eq_true_iff] at h
      exact ⟨h1, h6, ha, hp, hasc, hl, fun h => absurd h h5, fun _ => hb, fun _ => List.eq_nil_of_length_eq_zero h, fun h => by dsimp only at h; omega⟩
    · rw [if_neg h4, Bool.or_eq_true, decide_eq_true_iff, decide_eq_true_iff] at h
      exact ⟨h1, h6, ha, hp, hasc, hl, fun h => absurd h h5, fun _ => hb, fun h => by dsimp only at h; omega, fun hk => by
        dsimp only at hk ⊢
        rcases h with h | h
        · omega
        · omega⟩
theorem right_of {q : Qv} {us : List ByteArray} (h : GoodQ ⟨q.k, q.a, q.b, us⟩) : rightQ q us = true := by
  obtain ⟨h1, h6, ha, hp, hasc, hfew, htwo, hone, hnone, hsome⟩ := h
  dsimp only at h1 h6 ha hp hasc hfew htwo hone hnone hsome
  unfold rightQ
  rw [decide_eq_true h1, decide_eq_true h6, ha, rises_of hp hasc]
  simp only [Bool.true_and]
  by_cases h5 : 5 ≤ q.k
  · rw [if_pos h5, htwo h5, hnone (by omega)]; rfl
  · rw [if_neg h5, decide_eq_true hfew]
    have hb : eqRl q.b noR = true := decide_eq_true (hone h5)
    rw [hb]
    simp only [Bool.true_and]
    by_cases h4 : q.k = 4
    · rw [if_pos h4, hnone (by omega)]; rfl
    · rw [if_neg h4, Bool.or_eq_true, decide_eq_true_iff, decide_eq_true_iff]
      by_cases h3 : q.k = 3
      · exact .inl h3
      · have := hsome (by omega)
        exact .inr (by omega)
theorem right_iff {q : Qv} {us : List ByteArray} : rightQ q us = true ↔ GoodQ ⟨q.k, q.a, q.b, us⟩ := ⟨good_of, right_of⟩
end Go.Proofs.YtnhkgfgbhedphaaGreatDoor
namespace Go.Proofs.YtnhkgfgbhedphaaGreatDoor
open Go.RowKit Go.Shelf

def linesP : List UInt8 → List (List UInt8 × Bool)
  | [] => []
  | c :: r => if c = 10 then ([], true) :: linesP r else match linesP r with
    | [] => [([c], false)]
    | x :: xs => (c :: x.1, x.2) :: xs
def fullL (p : List UInt8 × Bool) : List UInt8 := if p.2 = true then p.1 ++ [10] else p.1
theorem lines_cons {c : UInt8} (r : List UInt8) (h : c ≠ 10) : linesP (c :: r) = (match linesP r with | [] => [([c], false)] | x :: xs => (c :: x.1, x.2) :: xs) := if_neg h
theorem lines_nl (r : List UInt8) : linesP (10 :: r) = ([], true) :: linesP r := if_pos rfl
theorem lines_nil : ∀ {l : List UInt8}, linesP l = [] → l = []
  | [], _ => rfl
  | c :: r, h => by
    by_cases hc : c = 10
    · rw [hc, lines_nl] at h; exact absurd h (by simp)
    · rw [lines_cons r hc] at h
      cases hr : linesP r with
      | nil => rw [hr] at h; exact absurd h (by simp)
      | cons x xs => rw [hr] at h; exact absurd h (by simp)
theorem lines_full : ∀ l : List UInt8, (linesP l).flatMap fullL = l
  | [] => rfl
  | c :: r => by
    have ih := lines_full r
    by_cases hc : c = 10
    · rw [hc, lines_nl, List.flatMap_cons, ih]; rfl
    · rw [lines_cons r hc]
      cases hr : linesP r with
      | nil =>
        obtain rfl := lines_nil hr
        rfl
      | cons x xs =>
        rw [hr, List.flatMap_cons] at ih
        show fullL (c :: x.1, x.2) ++ xs.flatMap fullL = c :: r
        rw [← ih]
        unfold fullL
        cases x.2 <;> rfl
theorem lines_at : ∀ (l : List UInt8) (j : Nat), (∀ k, k < j → l[k]? ≠ some 10) → l[j]? = some 10 → linesP l = (l.take j, true) :: linesP (l.drop (j + 1))
  | [], j, _, h => by simp at h
  | c :: r, 0, _, h => by
    obtain rfl : c = 10 := by simpa using h
    rw [lines_nl]; rfl
  | c :: r, j + 1, h0, h => by
    have hc : c ≠ 10 := fun e => h0 0 (by omega) (by simp [e])
    have ih := lines_at r j (fun k hk => by have := h0 (k + 1) (by omega); simpa using this) (by simpa using h)
    rw [lines_cons r hc, ih]
    simp
theorem lines_end : ∀ (l : List UInt8), (∀ k : Nat, l[k]? ≠ some 10) → l ≠ [] → linesP l = [(l, false)]
  | [], _, h => absurd rfl h
  | c :: r, h, _ => by
    have hc : c ≠ 10 := fun e => h 0 (by simp [e])
    rw [lines_cons r hc]
    by_cases hr : r = []
    · subst hr; rfl
    · rw [lines_end r (fun k => by have := h (k + 1); simpa using this) hr]
theorem lines_len : ∀ l : List UInt8, (linesP l).length ≤ l.length
  | [] => Nat.le_refl _
  | c :: r => by
    have ih := lines_len r
    by_cases hc : c = 10
    · rw [hc, lines_nl]; simpa using ih
    · rw [lines_cons r hc]
      cases hr : linesP r with
      | nil => simp
      | cons x xs => rw [hr] at ih; simp only [List.length_cons] at ih ⊢; omega
theorem flat_size {α β : Type} (f : α → List β) : ∀ (l : List α), ∀ p ∈ l, (f p).length ≤ (l.flatMap f).length
  | [], p, hp => absurd hp (by simp)
  | x :: xs, p, hp => by
    rw [List.flatMap_cons, List.length_append]
    rcases List.mem_cons.1 hp with rfl | h
    · omega
    · have := flat_size f xs p h; omega
theorem lines_size (l : List UInt8) (p : List UInt8 × Bool) (hp : p ∈ linesP l) : (fullL p).length ≤ l.length := by
  have h := flat_size fullL (linesP l) p hp
  rwa [lines_full] at h
theorem full_len (p : List UInt8 × Bool) : p.1.length ≤ (fullL p).length := by unfold fullL; split <;> simp
def lineB (p : List UInt8 × Bool) : ByteArray := ⟨p.1.toArray⟩
def pieceB (p : List UInt8 × Bool) : ByteArray := ⟨(fullL p).toArray⟩
def linesB (s : ByteArray) : List ByteArray := (linesP (bl s)).map lineB
theorem lines_step {l : List UInt8} (h : Lib.indexByte l 10 = -1) (h0 : l ≠ []) : linesP l = [(l, false)] := lines_end l (Lib.indexByte_none h) h0
theorem lines_step1 {l : List UInt8} {o : Nat} (h : Lib.indexByte l 10 = o) : linesP l = (l.take o, true) :: linesP (l.drop (o + 1)) ∧ o < l.length ∧ l.take (o + 1) = l.take o ++ [10] := by
  obtain ⟨h1, h2⟩ := Lib.indexByte_some h
  obtain ⟨hlt, hv⟩ := List.getElem?_eq_some_iff.1 h1
  exact ⟨lines_at l o h2 h1, hlt, by rw [List.take_succ_eq_append_getElem hlt, hv]⟩
theorem lines_no : ∀ (l : List UInt8), ∀ p ∈ linesP l, (10 : UInt8) ∉ p.1 ∧ (p.2 = false → p.1 ≠ [])
  | [], p, hp => absurd hp (by simp [linesP])
  | c :: r, p, hp => by
    by_cases hc : c = 10
    · rw [hc, lines_nl] at hp
      rcases List.mem_cons.1 hp with rfl | h
      · exact ⟨by simp, fun h => by cases h⟩
      · exact lines_no r p h
    · rw [lines_cons r hc] at hp
      have ih := lines_no r
      cases hr : linesP r with
      | nil =>
        rw [hr] at hp
        obtain rfl := List.mem_singleton.1 hp
        exact ⟨by simpa using fun e => hc e.symm, fun _ => by simp⟩
      | cons x xs =>
        rw [hr] at hp ih
        rcases List.mem_cons.1 hp with rfl | h
        · have h1 := (ih x (by simp)).1
          exact ⟨fun h => by rcases List.mem_cons.1 h with e | e; exact hc e.symm; exact h1 e, fun _ => by simp⟩
        · exact ih p (by simp [h])
theorem lines_cut_of {l : List UInt8} {k : Nat} (h : k < (linesP l).length) : ((linesP l).getD k ([], false)).2 = true ∨ (((linesP l).getD k ([], false)).1 ≠ [] ∧ ((linesP l).getD k ([], false)).2 = false ∧ ∀ c, ((linesP l).getD k ([], false)).1.getLast? = some c → c ≠ 10) := by
  obtain ⟨h1, h2⟩ := lines_no l _ (List.getElem_mem h)
  rw [List.getD_eq_getElem?_getD, List.getElem?_eq_getElem h]
  show (linesP l)[k].2 = true ∨ _
  generalize (linesP l)[k] = p at *
  cases hp : p.2 with
  | true => exact .inl rfl
  | false =>
    refine .inr ⟨h2 hp, hp, fun c hc e => h1 ?_⟩
    subst e
    exact List.mem_of_getLast? hc
def joinN (l : List ByteArray) : List UInt8 := l.flatMap fun x => bl x ++ [10]
theorem linesB_size (s : ByteArray) : ∀ x ∈ linesB s, x.size ≤ s.size := fun x hx => by
  obtain ⟨p, hp, rfl⟩ := List.mem_map.1 hx
  have h1 := lines_size (bl s) p hp
  have h2 := full_len p
  rw [bl_len] at h1
  rw [← bl_len]
  show p.1.length ≤ s.size
  omega
theorem linesB_len (s : ByteArray) : (linesB s).length ≤ s.size := by
  unfold linesB
  rw [List.length_map, ← bl_len]
  exact lines_len _
end Go.Proofs.YtnhkgfgbhedphaaGreatDoor
namespace Go.Proofs.YtnhkgfgbhedphaaGreatDoor
open Go.RowKit Go.Shelf

set_option maxRecDepth 100000 in
set_option maxHeartbeats 2000000 in
theorem q_IndexFunc (va : Value) (l : List Qv) (w : World) (ha : SlA w 6 va l.length (l.flatMap Qv.cells)) (g : Nat) (cb : Array Value) (p : Qv → Bool)
    (eg : ∀ args w, (callFunc g args).run Tryz.prog w = .ok (.enter g args) w)
    (hp : ∀ x W, x ∈ l → Below w.heap.size w W → Calls Tryz.prog g (#[qv x] ++ cb) W fun e w' => e = .returned (.bool (p x)) ∧ Below W.heap.size W w') :
    Calls Tryz.prog 131 #[va, .func (.func g) #[] cb] w fun e w' => (∃ i : Int, e = .returned (.int .i64 i) ∧ l.any p = decide (0 ≤ i)) ∧ Below w.heap.size w w' := by
  have HP := Lib.hid hp
  have HA := Lib.hid ha
  have hmax := ha.max
  obtain ⟨ao, cap, hva⟩ := ha.form
  subst hva
  clear ha hp
  have HY := Lib.hid (fun k (hk : k < l.length) (h : p l[k] = true) => show l.any p = true from List.any_eq_true.2 ⟨l[k], List.getElem_mem hk, h⟩)
  have HN := Lib.hid (fun (h : ∀ j (hj : j < l.length), p l[j] = false) => show l.any p = false by
    rw [List.any_eq_false]
    intro x hx
    obtain ⟨j, hj, rfl⟩ := List.getElem_of_mem hx
    rw [h j hj]; exact Bool.false_ne_true)
  generalize l.any p = res at HY HN ⊢
  go_enter Tryz.func131, Tryz.ntmps131
  go_wp2
  go_loopw [8] (fun i wr => ∃ k : Nat, k ≤ l.length ∧ i = .int .i64 k ∧ Hid (Below w.heap.size w wr) ∧ Hid (∀ j (hj : j < l.length), j < k → p l[j] = false)) (fun i _ => l.length - (intOf i).toNat)
  case atStart => exact ⟨0, by omega, rfl, Lib.hid (Below.refl _ _), Lib.hid (fun _ _ h => absurd h (by omega))⟩
  case round =>
    obtain ⟨k, hk, rfl, HB, HJ⟩ := hrel
    by_cases hlt : k < l.length
    · obtain ⟨b1, o1, c1, he1, hc1, hm1, hb1, hx1⟩ := HA.out.pos (by omega)
      simp only [Value.slice.injEq, true_and] at he1
      obtain ⟨rfl, rfl⟩ := he1
      obtain ⟨p0, p1, p2, p3, p4, p5⟩ := q_cell (w := wr) (fun j u hu => (HB.out.cell (p := ⟨b1, o1 + j, none⟩) hb1).trans (hx1 j u hu)) k hlt
      have hbr : b1 < wr.heap.size := Nat.lt_of_lt_of_le hb1 HB.out.size
      have PC := Lib.hid (fun W h => HP.out l[k] W (List.getElem_mem hlt) h)
      have YES := Lib.hid (HY.out k hlt)
      have HJ2 : Hid (p l[k] = false → ∀ j (hj : j < l.length), j < k + 1 → p l[j] = false) := Lib.hid (fun hpk j hj hjk => by
        by_cases h : j < k
        · exact HJ.out j hj h
        · obtain rfl : j = k := by omega
          exact hpk)
      clear hx1
      generalize p l[k] = px at PC YES HJ2
      generalize l[k] = x at *
      obtain ⟨xk, ⟨x1, x2⟩, ⟨x3, x4⟩, xw⟩ := x
      go_wp2_with fail
      refine (PC.out _ HB.out).mono ?_
      rintro e w2 ⟨rfl, hb2⟩
      have HB2 := Lib.hid (HB.out.trans (hb2.mono HB.out.size))
      clear hb2
      cases px with
      | true =>
        have R := Lib.hid (YES.out rfl)
        go_wp2
        go_ret
        exact ⟨⟨(k : Int), rfl, by rw [R.out, decide_eq_true (Int.natCast_nonneg k)]⟩, HB2.out⟩
      | false =>
        have HJ3 := Lib.hid (HJ2.out rfl)
        go_wp2
        exact ⟨⟨k + 1, by omega, by go_num, HB2, HJ3⟩, by simp [intOf]; omega⟩
    · have R := Lib.hid (HN.out (fun j hj => HJ.out j hj (by omega)))
      go_wp2
      go_ret
      exact ⟨⟨-1, rfl, by rw [R.out]; rfl⟩, HB.out⟩
set_option maxHeartbeats 1000000 in
theorem q_ContainsFunc (va : Value) (l : List Qv) (w : World) (ha : SlA w 6 va l.length (l.flatMap Qv.cells)) (g : Nat) (cb : Array Value) (p : Qv → Bool)
    (eg : ∀ args w, (callFunc g args).run Tryz.prog w = .ok (.enter g args) w)
    (hp : ∀ x W, x ∈ l → Below w.heap.size w W → Calls Tryz.prog g (#[qv x] ++ cb) W fun e w' => e = .returned (.bool (p x)) ∧ Below W.heap.size W w') :
    Calls Tryz.prog 80 #[va, .func (.func g) #[] cb] w fun e w' => e = .returned (.bool (l.any p)) ∧ Below w.heap.size w w' := by
  have I := Lib.hid (q_IndexFunc va l w ha g cb p eg hp)
  generalize l.any p = res at I ⊢
  clear ha hp eg
  go_enter Tryz.func80, Tryz.ntmps80
  go_wp2_with fail
  refine I.out.mono ?_
  rintro e w1 ⟨⟨i, rfl, hi⟩, hb⟩
  have HI := Lib.hid hi
  have HB := Lib.hid hb
  clear hi hb
  go_wp2
  go_ret
  exact ⟨ret_b HI.out.symm, HB.out⟩
end Go.Proofs.YtnhkgfgbhedphaaGreatDoor
namespace Go.Proofs.YtnhkgfgbhedphaaGreatDoor
open Go.RowKit Go.Shelf

theorem own_base {w : World} {base base' size n : Nat} {e : TypeId} {v : Value} {xs : List Value} (h : w.ownsRow base e size v n xs) (hb : base' ≤ base) : w.ownsRow base' e size v n xs := by
  obtain ⟨h1, h2⟩ := h
  refine ⟨h1, ?_⟩
  rcases h2 with h2 | ⟨g, cap, cur, rfl, h3, h4⟩
  · exact .inl h2
  · exact .inr ⟨g, cap, cur, rfl, Nat.le_trans hb h3, h4⟩
theorem str_CloneO (v : Value) (l : List ByteArray) (w : World) (h : SlA w 1 v l.length (strs l)) (hl : l.length ≤ 100000) :
    Calls Tryz.prog 88 #[v] w fun e w' => ∃ v', e = .returned v' ∧ w'.ownsRow w.heap.size 9 1 v' l.length (strs l) ∧ Below w.heap.size w w' := by
  by_cases h0 : 0 < l.length
  · obtain ⟨b1, o1, c1, rfl, hc1, hm1, hb1, hx1⟩ := h.pos h0
    refine (Tryz.slices_Clone_string b1 o1 l.length c1 l w (Nat.le_refl _) (by omega) (fun j hj => by
      rw [hx1 j _ (strs_get hj), List.getD_eq_getElem?_getD, List.getElem?_eq_getElem hj]; rfl)).mono ?_
    rintro e w' ⟨v', he, hown, _, hb⟩
    rw [List.take_of_length_le (Nat.le_refl _)] at hown
    exact ⟨v', he, hown, hb⟩
  · obtain rfl : l = [] := List.eq_nil_of_length_eq_zero (by omega)
    obtain ⟨ao, ac, rfl⟩ := h.form
    cases ao with
    | none =>
      refine (Tryz.slices_Clone_string_nil _ ac w).mono ?_
      rintro e w' ⟨he, rfl⟩
      exact ⟨_, he, World.ownsRow_nil _ _ _ _, Below.refl _ _⟩
    | some a =>
      refine (Tryz.slices_Clone_string_zero a ac w).mono ?_
      rintro e w' ⟨v', he, hown, _, hb⟩
      exact ⟨v', he, hown, hb⟩
theorem rl_GrowO (n : Nat) (w : World) (hn : n ≤ 2000) : Calls Tryz.prog 195 #[.slice none 0 0, .int .i64 n] w fun e w' =>
    ∃ a cap, e = .returned (.slice a 0 cap) ∧ w'.ownsRow w.heap.size 54 2 (.slice a 0 cap) 0 [] ∧ Below w.heap.size w w' := by
  by_cases h0 : 0 < n
  · obtain ⟨inf, hinf, hz0, hz1, hz2⟩ := info_parts rl_info'
    refine (Any8.slices_Grow_grow Tryz.growR inf _ hinf hz0 (by omega) none 0 0 n [] w (Nat.le_refl _) (by omega) (by rw [hz2]; omega) (by omega) (by simp) (fun _ => rfl) (fun a h => by cases h)).mono ?_
    rintro e w' ⟨rfl, rfl⟩
    have hge := grownCap_ge w (0 + n) 0 54
    have hle := grownCap_le_maxLen w (0 + n) 0 54 (by simp only [maxLen]; omega)
    refine ⟨_, _, rfl, World.ownsRow_made w.drew _ _ (Nat.le_refl _) hle ?_, (below_drew (Below.refl _ _)).alloc (Nat.le_refl _) _⟩
    rw [Nat.zero_add] at hge hle ⊢
    simp [Builtin.zeroCells, Value.cells]
    rw [show Tryz.growR_ren.t 25 = 54 from rfl]
    omega
  · obtain rfl : n = 0 := by omega
    refine (Any8.slices_Grow_room Tryz.growR none 0 0 0 w (Nat.le_refl _) (by omega) (by omega) (by omega)).mono ?_
    rintro e w' ⟨rfl, rfl⟩
    exact ⟨_, _, rfl, World.ownsRow_nil _ _ _ _, Below.refl _ _⟩
set_option maxRecDepth 100000 in
set_option maxHeartbeats 4000000 in
theorem rl_ConcatO (g : Nat) (va vb : Value) (l m : List Rl) (w : World) (hg : Blk w g #[va, vb]) (ha : SlA w 2 va l.length (l.flatMap Rl.cells)) (hb : SlA w 2 vb m.length (m.flatMap Rl.cells)) (hl : l.length ≤ 1000) (hm : m.length ≤ 1000) :
    Calls Tryz.prog 139 #[.slice (some ⟨g, 0, none⟩) 2 2] w fun e w' => ∃ v, e = .returned v ∧ w'.ownsRow w.heap.size 54 2 v (l ++ m).length ((l ++ m).flatMap Rl.cells) ∧ Below w.heap.size w w' := by
  have HA := Lib.hid ha
  have HB := Lib.hid hb
  have HG := Lib.hid hg
  obtain ⟨ao, ac, hva⟩ := ha.form
  obtain ⟨bo, bc, hvb⟩ := hb.form
  subst hva hvb
  have GR : Hid (∀ W, Calls Tryz.prog 195 #[.slice none 0 0, .int .i64 ((l.length : Int) + (m.length : Int))] W fun e w' =>
      ∃ a cap, e = .returned (.slice a 0 cap) ∧ w'.ownsRow W.heap.size 54 2 (.slice a 0 cap) 0 [] ∧ Below W.heap.size W w') := Lib.hid (fun W => by
    have h := rl_GrowO (l.length + m.length) W (by omega)
    rw [Int.natCast_add] at h
    exact h)
  have c0 : w.cell? ⟨g, 0, none⟩ = some (.slice ao l.length ac) := (hg.1 0).trans rfl
  have c1 : w.cell? ⟨g, 1, none⟩ = some (.slice bo m.length bc) := (hg.1 1).trans rfl
  have hgw : g < w.heap.size := hg.2.2
  clear ha hb hg
  go_enter Tryz.func139, Tryz.ntmps139
  go_wp2
  go_loop [3, 11] (fun n i => (n = .int .i64 0 ∧ i = .int .i64 0) ∨ (n = .int .i64 l.length ∧ i = .int .i64 1) ∨ (n = .int .i64 ((l.length : Int) + (m.length : Int)) ∧ i = .int .i64 2)) (fun _ i => 2 - (intOf i).toNat)
  case atStart => exact .inl ⟨rfl, rfl⟩
  case round =>
    obtain ⟨rfl, rfl⟩ | ⟨rfl, rfl⟩ | ⟨rfl, rfl⟩ := hrel
    · have d : decide ((l.length : Int) < 0) = false := by (rw [decide_eq_false_iff_not]; omega)
      have hw : IntKind.i64.wrap ((0 : Int) + (l.length : Int)) = (l.length : Int) := by rw [Int.zero_add]; exact Go.IntWalk.i64_in _ (by omega)
      go_wp2
      exact ⟨.inr (.inl ⟨rfl, rfl⟩), by simp [intOf]⟩
    · have d : decide ((l.length : Int) + (m.length : Int) < 0) = false := by (rw [decide_eq_false_iff_not]; omega)
      have hw : IntKind.i64.wrap ((l.length : Int) + (m.length : Int)) = (l.length : Int) + (m.length : Int) := Go.IntWalk.i64_in _ (by omega)
      go_wp2
      exact ⟨.inr (.inr ⟨rfl, rfl⟩), by simp [intOf]⟩
    · go_wp2_with fail
      refine (GR.out _).mono ?_
      rintro e w1 ⟨a1, cap1, rfl, hown, hb1⟩
      have HO := Lib.hid hown
      have HB1 := Lib.hid hb1
      clear hown hb1 c0 c1 hgw
      go_wp2_with fail
      go_loopw [6, 27] (fun vo i wr => Hid (Below w.heap.size w wr) ∧ ((i = .int .i64 0 ∧ Hid (wr.ownsRow w.heap.size 54 2 vo 0 [])) ∨ (i = .int .i64 1 ∧ Hid (wr.ownsRow w.heap.size 54 2 vo l.length (l.flatMap Rl.cells))) ∨ (i = .int .i64 2 ∧ Hid (wr.ownsRow w.heap.size 54 2 vo (l.length + m.length) ((l ++ m).flatMap Rl.cells))))) (fun _ i _ => 2 - (intOf i).toNat)
      case atStart => exact ⟨HB1, .inl ⟨rfl, HO⟩⟩
      case round =>
        obtain ⟨HBR, ⟨rfl, HOR⟩ | ⟨rfl, HOR⟩ | ⟨rfl, HOR⟩⟩ := hrel
        · have hbk := HG.out.below HBR.out
          have c0 : wr.cell? ⟨g, 0, none⟩ = some (.slice ao l.length ac) := (hbk.1 0).trans rfl
          have hgw : g < wr.heap.size := hbk.2.2
          obtain ⟨xo, xc, rfl⟩ := own_form HOR.out
          clear hbk
          go_wp2_with (at_builtin; refine halt_ ?_)
          unfold Halt_
          refine app_row Tryz.underlying23 rl_info' rfl (by decide) (by decide) rfl _ _ rfl w.heap.size rfl HOR.out rfl (HA.out.below HBR.out) (rls_one _) (by omega) HBR.out.size ?_
          intro a' cap' w3 hown' hgrow
          have HO3 := Lib.hid (show w3.ownsRow w.heap.size 54 2 (.slice a' l.length cap') l.length (l.flatMap Rl.cells) by simpa using hown')
          have HB3 := Lib.hid (below_own HBR.out HOR.out hgrow HBR.out.size (Nat.le_refl _))
          clear hown' hgrow
          go_wp2_with fail
          exact ⟨⟨HB3, .inr (.inl ⟨rfl, HO3⟩)⟩, by simp [intOf]⟩
        · have hbk := HG.out.below HBR.out
          have c1 : wr.cell? ⟨g, 1, none⟩ = some (.slice bo m.length bc) := (hbk.1 1).trans rfl
          have hgw : g < wr.heap.size := hbk.2.2
          obtain ⟨xo, xc, rfl⟩ := own_form HOR.out
          clear hbk
          go_wp2_with (at_builtin; refine halt_ ?_)
          unfold Halt_
          refine app_row Tryz.underlying23 rl_info' rfl (by decide) (by decide) rfl _ _ rfl w.heap.size rfl HOR.out rfl (HB.out.below HBR.out) (rls_one _) (by omega) HBR.out.size ?_
          intro a' cap' w3 hown' hgrow
          have HO3 := Lib.hid (show w3.ownsRow w.heap.size 54 2 (.slice a' (l.length + m.length) cap') (l.length + m.length) ((l ++ m).flatMap Rl.cells) by rw [rl_flat]; exact hown')
          have HB3 := Lib.hid (below_own HBR.out HOR.out hgrow HBR.out.size (Nat.le_refl _))
          clear hown' hgrow
          go_wp2_with fail
          exact ⟨⟨HB3, .inr (.inr ⟨rfl, HO3⟩)⟩, by simp [intOf]⟩
        · obtain ⟨xo, xc, rfl⟩ := own_form HOR.out
          go_wp2_with fail
          go_ret
          exact ⟨_, rfl, by rw [List.length_append]; exact HOR.out, HBR.out⟩
end Go.Proofs.YtnhkgfgbhedphaaGreatDoor
namespace Go.Proofs.YtnhkgfgbhedphaaGreatDoor
open Go.RowKit Go.Shelf

theorem query_second (k : Int) (w : World) : Calls Tryz.prog 123 #[.int .i64 k] w fun e w' => e = .returned (.bool (decide (k = 5 ∨ k = 6))) ∧ w' = w := by
  by_cases h5 : k = 5
  · subst h5
    go_enter Tryz.func123, Tryz.ntmps123
    go_wp2
    go_ret
    exact ⟨rfl, rfl⟩
  · by_cases h6 : k = 6
    · subst h6
      go_enter Tryz.func123, Tryz.ntmps123
      go_wp2
      go_ret
      exact ⟨rfl, rfl⟩
    · have hd := Lib.hid (show decide (k = 5 ∨ k = 6) = false from decide_eq_false (fun h => h.elim h5 h6))
      have d5 : (k == 5) = false := by rw [beq_eq_false_iff_ne]; exact h5
      have d6 : (k == 6) = false := by rw [beq_eq_false_iff_ne]; exact h6
      go_enter Tryz.func123, Tryz.ntmps123
      go_wp2
      go_ret
      exact ⟨by rw [hd.out]; rfl, rfl⟩
theorem query_Roles (q : Qv) (w : World) :
    Calls Tryz.prog 141 #[qv q] w fun e w' => ∃ v, e = .returned v ∧ Sl w' 2 v (rolesQ q).length ((rolesQ q).flatMap Rl.cells) ∧ Below w.heap.size w w' := by
  have SE := Lib.hid (fun W => query_second q.k W)
  have RY := Lib.hid (fun (h : q.k = 5 ∨ q.k = 6) => show rolesQ q = [q.a, q.b] from if_pos h)
  have RN := Lib.hid (fun (h : ¬ (q.k = 5 ∨ q.k = 6)) => show rolesQ q = [q.a] from if_neg h)
  obtain ⟨k, ⟨a1, a2⟩, ⟨b1, b2⟩, v⟩ := q
  by_cases hk : k = 5 ∨ k = 6
  · have hd : decide (k = 5 ∨ k = 6) = true := decide_eq_true hk
    rw [hd] at SE
    rw [RY.out hk]
    clear RY RN hk hd
    go_enter Tryz.func141, Tryz.ntmps141
    go_wp2_with fail
    refine (SE.out _).mono ?_
    rintro e w1 ⟨rfl, rfl⟩
    go_wp2
    go_ret
    exact ⟨.slice (some ⟨w.heap.size + 1, 0, none⟩) 2 2, rfl, Sl.new _ [.string a1, .string a2, .string b1, .string b2] _ 2 2 (w.heap.size + 1) (by simp) rfl (by simp [maxLen]), ((Below.refl _ _).alloc (Nat.le_refl _) _).alloc (by simp) _⟩
  · have hd : decide (k = 5 ∨ k = 6) = false := decide_eq_false hk
    rw [hd] at SE
    rw [RN.out hk]
    clear RY RN hk hd
    go_enter Tryz.func141, Tryz.ntmps141
    go_wp2_with fail
    refine (SE.out _).mono ?_
    rintro e w1 ⟨rfl, rfl⟩
    go_wp2
    go_ret
    exact ⟨.slice (some ⟨w.heap.size + 1, 0, none⟩) 1 1, rfl, Sl.new _ [.string a1, .string a2] _ 2 1 (w.heap.size + 1) (by simp) rfl (by simp [maxLen]), ((Below.refl _ _).alloc (Nat.le_refl _) _).alloc (by simp) _⟩

def polRoles (l : List St) (g h : List Rl) (qs : List Qv) : List Rl := g ++ h ++ l.flatMap rolesS ++ qs.flatMap rolesQ
theorem rolesS_len (s : St) : (rolesS s).length ≤ 3 := by
  unfold rolesS
  split
  · simp
  · split <;> simp
theorem rolesQ_len (q : Qv) : (rolesQ q).length ≤ 2 := by
  unfold rolesQ
  split <;> simp
theorem push_roles {w wr w3 : World} {A : Array Value} {vo : Value} {n m : Nat} {rs ms : List Rl} {a' : Option Addr} {cap' : Nat} (ht : OneAt w A wr) (hown : wr.ownsRow (w.heap.size + 1) 54 2 vo n (rs.flatMap Rl.cells))
    (h : w3.ownsRow (w.heap.size + 1) 54 2 (.slice a' (n + m) cap') (n + m) (rs.flatMap Rl.cells ++ ms.flatMap Rl.cells)) (hg : wr.grownBy w3 vo.ownBlock) :
    w3.ownsRow (w.heap.size + 1) 54 2 (.slice a' (n + m) cap') (n + m) ((rs ++ ms).flatMap Rl.cells) ∧ OneAt w A w3 := by
  refine ⟨by rw [rl_flat]; exact h, ht.a.grown hg (own_gt_ne hown (Nat.lt_succ_self _)), ?_⟩
  exact below_own ht.low hown hg (by have := ht.low.size; omega) (Nat.le_succ _)
set_option maxRecDepth 100000 in
set_option maxHeartbeats 8000000 in
theorem policy_roles (v0 v1 v2 v3 : Value) (l : List St) (g h : List Rl) (qs : List Qv) (w : World) (hp : PolAt w v0 v1 v2 v3 l g h qs) (hl : l.length ≤ 100) (hg : g.length ≤ 100) (hh : h.length ≤ 100) (hq : qs.length ≤ 100) :
    Calls Tryz.prog 90 #[pv v0 v1 v2 v3] w fun e w' => ∃ v, e = .returned v ∧ SlA w' 2 v (polRoles l g h qs).length ((polRoles l g h qs).flatMap Rl.cells) ∧ (polRoles l g h qs).length ≤ 1000 ∧ Below w.heap.size w w' := by
  have HP := Lib.hid hp
  have CO := Lib.hid (fun b W (hb : Below w.heap.size w W) (hx : Blk W b #[v1, v2]) => rl_ConcatO b v1 v2 g h W hx (hp.rg.below hb) (hp.rh.below hb) (by omega) (by omega))
  obtain ⟨a0, c0, rfl⟩ := hp.rs.form
  obtain ⟨a1, c1, rfl⟩ := hp.rg.form
  obtain ⟨a2, c2, rfl⟩ := hp.rh.form
  obtain ⟨a3, c3, rfl⟩ := hp.rq.form
  have HT := Lib.hid (show OneAt w #[.slice a0 l.length c0, .slice a1 g.length c1, .slice a2 h.length c2, .slice a3 qs.length c3] (w.alloc (.cells #[.slice a0 l.length c0, .slice a1 g.length c1, .slice a2 h.length c2, .slice a3 qs.length c3] 26)) from ⟨Blk.new w _ _, (Below.refl _ _).alloc (Nat.le_refl _) _⟩)
  clear hp
  go_enter Tryz.func90, Tryz.ntmps90
  go_wp2_with fail
  refine (CO.out (w.heap.size + 1) _ (((Below.refl _ _).alloc (Nat.le_refl _) _).alloc (by simp) _) (by have := Blk.new (w.alloc (.cells #[.slice a0 l.length c0, .slice a1 g.length c1, .slice a2 h.length c2, .slice a3 qs.length c3] 26)) #[.slice a1 g.length c1, .slice a2 h.length c2] 23; simpa using this)).mono ?_
  rintro e w1 ⟨vo, rfl, hown, hb⟩
  obtain ⟨r0, hr0⟩ : ∃ r, r = g ++ h := ⟨_, rfl⟩
  rw [← hr0] at hown
  have HT := Lib.hid ((HT.out.alloc _).later hb)
  have HO := Lib.hid (own_base (base' := w.heap.size + 1) hown (by simp))
  obtain ⟨oo, oc, rfl⟩ := own_form hown
  clear hown hb CO
  have hn0 : r0.length ≤ 200 + 3 * 0 := by rw [hr0, List.length_append]; omega
  have HE0 := Lib.hid hr0
  clear hr0
  obtain ⟨ca, fa, za⟩ := HT.out.a
  go_wp2_with fail
  clear ca fa za
  go_loopw [3, 17] (fun vo i wr => ∃ (k : Nat) (rs : List Rl), k ≤ l.length ∧ i = .int .i64 k ∧ Hid (rs.length ≤ 200 + 3 * k) ∧ Hid (OneAt w #[.slice a0 l.length c0, .slice a1 g.length c1, .slice a2 h.length c2, .slice a3 qs.length c3] wr) ∧ Hid (wr.ownsRow (w.heap.size + 1) 54 2 vo rs.length (rs.flatMap Rl.cells)) ∧ Hid (rs = g ++ h ++ (l.take k).flatMap rolesS)) (fun _ i _ => l.length - (intOf i).toNat)
  case atStart => exact ⟨0, _, by omega, rfl, Lib.hid hn0, HT, HO, Lib.hid (by rw [HE0.out]; simp)⟩
  case round =>
    clear HT HO hn0 HE0
    obtain ⟨k, rs, hk, rfl, HC, HT, HO, HE⟩ := hrel
    obtain ⟨oo, oc, rfl⟩ := own_form HO.out
    have hrs := HC.out
    by_cases hlt : k < l.length
    · obtain ⟨b1, o1, e1, he1, hc1, hm1', hb1, hx1⟩ := HP.out.rs.pos (by omega)
      simp only [Value.slice.injEq, true_and] at he1
      obtain ⟨rfl, rfl⟩ := he1
      obtain ⟨p0, p1, p2, p3, p4, p5, p6, p7, p8⟩ := st_cell (w := wr) (fun j u hu => (HT.out.low.cell (p := ⟨b1, o1 + j, none⟩) hb1).trans (hx1 j u hu)) k hlt
      have hbr : b1 < wr.heap.size := Nat.lt_of_lt_of_le hb1 HT.out.low.size
      have HF := Lib.hid (flat_snocF rolesS hlt)
      have SR := Lib.hid (fun W => syn_Roles l[k] W)
      have hms := rolesS_len l[k]
      clear hx1
      generalize l[k] = x at *
      obtain ⟨xk, ⟨x1, x2⟩, xw, ⟨x3, x4⟩, ⟨x5, x6⟩, xv⟩ := x
      generalize rolesS ⟨xk, ⟨x1, x2⟩, xw, ⟨x3, x4⟩, ⟨x5, x6⟩, xv⟩ = ms at SR HF hms
      go_wp2_with fail
      refine (SR.out _).mono ?_
      rintro e w3 ⟨vz, rfl, hz, hb⟩
      have HT3 := Lib.hid ((HT.out.alloc _).later hb)
      have HO3 := Lib.hid (own_below (HO.out.alloc _) hb)
      obtain ⟨zo, zc, rfl⟩ := hz.form
      have HZ := Lib.hid hz
      clear hz hb SR
      go_wp2_with (at_builtin; refine halt_ ?_)
      unfold Halt_
      refine app_row Tryz.underlying23 rl_info' rfl (by decide) (by decide) rfl _ _ rfl (w.heap.size + 1) rfl HO3.out rfl HZ.out.a (rls_one _) (by omega) (by have := HT3.out.a.2.2; omega) ?_
      intro a' cap' w4 hown' hgrow
      obtain ⟨q1, q2⟩ := push_roles HT3.out HO3.out hown' hgrow
      have HO4 := Lib.hid (show w4.ownsRow (w.heap.size + 1) 54 2 (.slice a' (rs.length + ms.length) cap') (rs ++ ms).length ((rs ++ ms).flatMap Rl.cells) by rw [List.length_append]; exact q1)
      have HT4 := Lib.hid q2
      clear hown' hgrow q1 q2 HO3 HT3 HZ
      go_wp2_with fail
      exact ⟨⟨k + 1, rs ++ ms, by omega, by go_num, Lib.hid (by rw [List.length_append]; omega), HT4, HO4, Lib.hid (by rw [HF.out, HE.out]; simp only [List.append_assoc])⟩, by simp [intOf]; omega⟩
    · obtain ⟨ca, fa, za⟩ := HT.out.a
      have hn0 : rs.length ≤ 500 + 2 * 0 := by omega
      have HE0 := Lib.hid (show rs = g ++ h ++ l.flatMap rolesS by rw [HE.out, List.take_of_length_le (show l.length ≤ k by omega)])
      clear hrs HC hk HE
      go_wp2_with fail
      clear ca fa za
      go_loopw [3, 29] (fun vo i wr => ∃ (k : Nat) (rs : List Rl), k ≤ qs.length ∧ i = .int .i64 k ∧ Hid (rs.length ≤ 500 + 2 * k) ∧ Hid (OneAt w #[.slice a0 l.length c0, .slice a1 g.length c1, .slice a2 h.length c2, .slice a3 qs.length c3] wr) ∧ Hid (wr.ownsRow (w.heap.size + 1) 54 2 vo rs.length (rs.flatMap Rl.cells)) ∧ Hid (rs = g ++ h ++ l.flatMap rolesS ++ (qs.take k).flatMap rolesQ)) (fun _ i _ => qs.length - (intOf i).toNat)
      case atStart => exact ⟨0, _, by omega, rfl, Lib.hid hn0, HT, HO, Lib.hid (by rw [HE0.out]; simp)⟩
      case round =>
        clear HT HO hn0 HE0
        obtain ⟨k, rs, hk, rfl, HC, HT, HO, HE⟩ := hrel
        obtain ⟨oo, oc, rfl⟩ := own_form HO.out
        have hrs := HC.out
        by_cases hlt : k < qs.length
        · obtain ⟨b1, o1, e1, he1, hc1, hm1', hb1, hx1⟩ := HP.out.rq.pos (by omega)
          simp only [Value.slice.injEq, true_and] at he1
          obtain ⟨rfl, rfl⟩ := he1
          obtain ⟨p0, p1, p2, p3, p4, p5⟩ := q_cell (w := wr) (fun j u hu => (HT.out.low.cell (p := ⟨b1, o1 + j, none⟩) hb1).trans (hx1 j u hu)) k hlt
          have hbr : b1 < wr.heap.size := Nat.lt_of_lt_of_le hb1 HT.out.low.size
          have HF := Lib.hid (flat_snocF rolesQ hlt)
          have SR := Lib.hid (fun W => query_Roles qs[k] W)
          have hms := rolesQ_len qs[k]
          have hqo := HP.out.lq _ (List.getElem_mem hlt)
          obtain ⟨wo, wc, hw5⟩ : ∃ a c, qs[k].w = .slice a ((hqo.2.2).choose).length c := ((hqo.2.2).choose_spec.1).form
          generalize (hqo.2.2).choose.length = nw at hw5
          clear hx1 hqo
          generalize qs[k] = x at *
          obtain ⟨xk, ⟨x1, x2⟩, ⟨x3, x4⟩, xw⟩ := x
          dsimp only at hw5
          subst hw5
          generalize rolesQ ⟨xk, ⟨x1, x2⟩, ⟨x3, x4⟩, .slice wo nw wc⟩ = ms at SR HF hms
          go_wp2_with fail
          refine (SR.out _).mono ?_
          rintro e w3 ⟨vz, rfl, hz, hb⟩
          have HT3 := Lib.hid ((HT.out.alloc _).later hb)
          have HO3 := Lib.hid (own_below (HO.out.alloc _) hb)
          obtain ⟨zo, zc, rfl⟩ := hz.form
          have HZ := Lib.hid hz
          clear hz hb SR
          go_wp2_with (at_builtin; refine halt_ ?_)
          unfold Halt_
          refine app_row Tryz.underlying23 rl_info' rfl (by decide) (by decide) rfl _ _ rfl (w.heap.size + 1) rfl HO3.out rfl HZ.out.a (rls_one _) (by omega) (by have := HT3.out.a.2.2; omega) ?_
          intro a' cap' w4 hown' hgrow
          obtain ⟨q1, q2⟩ := push_roles HT3.out HO3.out hown' hgrow
          have HO4 := Lib.hid (show w4.ownsRow (w.heap.size + 1) 54 2 (.slice a' (rs.length + ms.length) cap') (rs ++ ms).length ((rs ++ ms).flatMap Rl.cells) by rw [List.length_append]; exact q1)
          have HT4 := Lib.hid q2
          clear hown' hgrow q1 q2 HO3 HT3 HZ
          go_wp2_with fail
          exact ⟨⟨k + 1, rs ++ ms, by omega, by go_num, Lib.hid (by rw [List.length_append]; omega), HT4, HO4, Lib.hid (by rw [HF.out, HE.out]; simp only [List.append_assoc])⟩, by simp [intOf]; omega⟩
        · have HA := Lib.hid (show rs = polRoles l g h qs by rw [HE.out, List.take_of_length_le (show qs.length ≤ k by omega)]; rfl)
          have HSL := Lib.hid (Sl.of_own HO.out).a
          go_wp2
          go_ret
          exact ⟨_, rfl, by rw [← HA.out]; exact HSL.out, by rw [← HA.out]; omega, HT.out.low⟩
end Go.Proofs.YtnhkgfgbhedphaaGreatDoor
