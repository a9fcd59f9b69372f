/- The reference of layer 3: what its small functions return, for every role and statement of texts that are not too long. Plain laws on blocks that a call made and that stand whole behind other calls. syn.Normal, Print, Roles and the reference's Normal, Print, SameRoles, for every statement of texts that are not too long. How statements stand: syn.Order, and the comparison that syn.Sort hands on. Plain laws: a comparison turned round. Plain laws of the order of statements: it is a total one, and two rows in strict order that hold the same are the same. syn.Roles, the reference's Normal, Print, SameRoles. The reference's order of statements, and rows of statements: Before, Has, Same. Plain laws of rows of texts in order, each once (printed by gen_strlaw.py out of RlHas, RlSort, RlLaw). Plain laws of tables: the place of a text, a role's number, a statement's rule. -/
import Derived.Test.YthickpocfplcoaaPart1
import Derived.Test.YthickpocfplcoaaPart2
import Derived.Deep.QuietTactic
import Derived.BigQuiet
import Derived.Deep.RegionWith
import Derived.Deep.RegionHeld3
namespace Go.Proofs.Ythickpocfplcoaa
open Go.RowKit Go.Shelf

def eqS (a b : ByteArray) : Bool := decide (a = b)
theorem toList_emp {x : ByteArray} : x.toList = [] ↔ x = emp := by
  rw [show ([] : List UInt8) = emp.toList by rw [toList_bl]]; exact toList_inj
theorem eqS_yes {x : ByteArray} (h : x.toList = []) : eqS x emp = true := by simp [eqS, toList_emp.1 h]
theorem eqS_no {x : ByteArray} (h : ¬ x.toList = []) : eqS x emp = false := decide_eq_false (fun e => h (toList_emp.2 e))
theorem isEmpty_eqS (x : ByteArray) : x.toList.isEmpty = eqS x emp := by
  rw [Bool.eq_iff_iff, List.isEmpty_iff, toList_emp]; simp [eqS]

set_option maxHeartbeats 400000 in
theorem ref3_IsRole (r : Rl) (w : World) (hs : r.le 4294967) :
    Calls Try.prog 42 #[rv r] w fun e w' => e = .returned (.bool (isRole r)) ∧ Below w.heap.size w w' := by
  obtain ⟨o, n⟩ := r
  obtain ⟨h1, h2⟩ := hs
  have H1 := Lib.hid (fun W => ref1_IsPrin o W (by dsimp only at h1; omega))
  have H2 := Lib.hid (fun W => ref1_IsName n W (by dsimp only at h2; omega))
  clear h1 h2
  have E := Lib.hid (show isRole ⟨o, n⟩ = (isP 65 90 (bl o) && isP 97 122 (bl n)) from rfl)
  cases hp : isP 65 90 (bl o)
  all_goals
    rw [hp] at E
    go_enter Try.func42, Try.ntmps42
    go_wp2_with (first | (go_at_call 20; refine (H1.out _).mono ?_; rintro e w' ⟨rfl, rfl⟩) | (go_at_call 21; refine (H2.out _).mono ?_; rintro e w' ⟨rfl, rfl⟩))
    go_ret
    exact ⟨ret_b (by rw [E.out]; rfl), (Below.refl _ _).alloc (Nat.le_refl _) _⟩

theorem lessR_def (a b c d : ByteArray) : lessR ⟨a, b⟩ ⟨c, d⟩ = if a = c then Op.bytesLess b.toList d.toList else Op.bytesLess a.toList c.toList := by
  unfold lessR cmpR orI
  dsimp only
  rw [toList_bl, toList_bl, toList_bl, toList_bl, cmp_less, cmp_less]
  by_cases h : a = c
  · rw [if_pos h, if_pos ((cmpS_zero a c).2 h)]; rfl
  · rw [if_neg h, if_neg (fun e => h ((cmpS_zero a c).1 e))]; rfl
set_option maxHeartbeats 400000 in
theorem ref3_Less (x y : Rl) (w : World) : Calls Try.prog 43 #[rv x, rv y] w fun e w' => e = .returned (.bool (lessR x y)) ∧ Below w.heap.size w w' := by
  obtain ⟨a, b⟩ := x
  obtain ⟨c, d⟩ := y
  have E := Lib.hid (lessR_def a b c d)
  by_cases h : a = c
  · have hb : (a.toList == c.toList) = true := by rw [beq_str]; simp [h]
    have H := Lib.hid h
    clear h
    go_enter Try.func43, Try.ntmps43
    go_wp2
    go_ret
    exact ⟨ret_b (by rw [E.out, if_pos H.out]), ((Below.refl _ _).alloc (Nat.le_refl _) _).alloc (by simp) _⟩
  · have hb : (a.toList == c.toList) = false := by rw [beq_str]; simp [h]
    have H := Lib.hid h
    clear h
    go_enter Try.func43, Try.ntmps43
    go_wp2
    go_ret
    exact ⟨ret_b (by rw [E.out, if_neg H.out]), ((Below.refl _ _).alloc (Nat.le_refl _) _).alloc (by simp) _⟩
theorem rightR1 (h : Rl) (who : ByteArray) (a b : Rl) (via : ByteArray) : rightS ⟨1, h, who, a, b, via⟩ = (isRole h && (isP 65 90 (bl who) && eqRl a noR && eqRl b noR && eqS via emp)) := by
  simp [rightS, eqS]
theorem rightR2 (h : Rl) (who : ByteArray) (a b : Rl) (via : ByteArray) : rightS ⟨2, h, who, a, b, via⟩ = (isRole h && (eqS who emp && isRole a && (eqRl b noR && eqS via emp))) := by
  simp [rightS, eqS, Bool.and_assoc]
theorem rightR3 (h : Rl) (who : ByteArray) (a b : Rl) (via : ByteArray) : rightS ⟨3, h, who, a, b, via⟩ = (isRole h && (eqS who emp && isRole a && (eqRl b noR && isP 97 122 (bl via)))) := by
  simp [rightS, eqS, Bool.and_assoc]
theorem rightR4 (h : Rl) (who : ByteArray) (a b : Rl) (via : ByteArray) : rightS ⟨4, h, who, a, b, via⟩ = (isRole h && (eqS who emp && isRole a && (isRole b && eqS via emp && !lessR b a))) := by
  simp [rightS, eqS, Bool.and_assoc]

set_option maxRecDepth 100000 in
set_option maxHeartbeats 4000000 in
theorem ref3_Right (s : St) (w : World) (hs : s.le 4294967) :
    Calls Try.prog 24 #[sv s] w fun e w' => e = .returned (.bool (rightS s)) ∧ Below w.heap.size w w' := by
  have hle := Lib.hid hs
  clear hs
  have hEq := role_eql
  obtain ⟨k, ⟨h1, h2⟩, who, ⟨a1, a2⟩, ⟨b1, b2⟩, via⟩ := s
  by_cases k1 : k = 1
  · subst k1
    have R := Lib.hid (rightR1 ⟨h1, h2⟩ who ⟨a1, a2⟩ ⟨b1, b2⟩ via)
    go_enter Try.func24, Try.ntmps24
    go_wp2_with (first | (go_at_call 42; refine (ref3_IsRole ⟨_, _⟩ _ ?_).mono ?_; (first | exact hle.out.1 | exact hle.out.2.2.1 | exact hle.out.2.2.2.1); rintro e w1 ⟨rfl, hb⟩; obtain ⟨hc1, hf1⟩ := bcell hb; have hz1 := hb.size; (try simp at hz1); have hz2 : w.heap.size < w1.heap.size := (by omega); have hz3 : w.heap.size + 1 < w1.heap.size := (by omega)) | (go_at_call 20; refine (ref1_IsPrin who _ ?_).mono ?_; (have := hle.out.2.1; dsimp only at this; omega); rintro e w' ⟨rfl, rfl⟩))
    all_goals
      go_ret
      refine ⟨ret_b ?_, ?_⟩
      · go_tidy
        rw [R.out]
        clear hle R
        simp_all [noR, isEmpty_eqS, eqS]
      · (repeat' (first | exact Below.refl _ _ | (refine Below.trans ?_ (Below.mono (by assumption) ?_)) | (refine Below.alloc ?_ ?_ _) | (refine below_drew ?_) | (refine below_drewN ?_ _) | (refine Below.setCell ?_ ?_ _) | omega | (simp; done) | (simp; omega)))
  · by_cases k2 : k = 2
    · subst k2
      have R := Lib.hid (rightR2 ⟨h1, h2⟩ who ⟨a1, a2⟩ ⟨b1, b2⟩ via)
      go_enter Try.func24, Try.ntmps24
      go_wp2_with (first | (go_at_call 42; refine (ref3_IsRole ⟨_, _⟩ _ ?_).mono ?_; (first | exact hle.out.1 | exact hle.out.2.2.1 | exact hle.out.2.2.2.1); rintro e w1 ⟨rfl, hb⟩; obtain ⟨hc1, hf1⟩ := bcell hb; have hz1 := hb.size; (try simp at hz1); have hz2 : w.heap.size < w1.heap.size := (by omega); have hz3 : w.heap.size + 1 < w1.heap.size := (by omega)))
      all_goals
        go_ret
        refine ⟨ret_b ?_, ?_⟩
        · go_tidy
          rw [R.out]
          clear hle R
          simp_all [noR, isEmpty_eqS, toList_emp, eqS]
        · (repeat' (first | exact Below.refl _ _ | (refine Below.trans ?_ (Below.mono (by assumption) ?_)) | (refine Below.alloc ?_ ?_ _) | (refine below_drew ?_) | (refine below_drewN ?_ _) | (refine Below.setCell ?_ ?_ _) | omega | (simp; done) | (simp; omega)))
    · by_cases k3 : k = 3
      · subst k3
        have R := Lib.hid (rightR3 ⟨h1, h2⟩ who ⟨a1, a2⟩ ⟨b1, b2⟩ via)
        go_enter Try.func24, Try.ntmps24
        go_wp2_with (first | (go_at_call 42; refine (ref3_IsRole ⟨_, _⟩ _ ?_).mono ?_; (first | exact hle.out.1 | exact hle.out.2.2.1 | exact hle.out.2.2.2.1); rintro e w1 ⟨rfl, hb⟩; obtain ⟨hc1, hf1⟩ := bcell hb; have hz1 := hb.size; (try simp at hz1); have hz2 : w.heap.size < w1.heap.size := (by omega); have hz3 : w.heap.size + 1 < w1.heap.size := (by omega)) | (go_at_call 21; refine (ref1_IsName via _ ?_).mono ?_; (have := hle.out.2.2.2.2; dsimp only at this; omega); rintro e w' ⟨rfl, rfl⟩))
        all_goals
          go_ret
          refine ⟨ret_b ?_, ?_⟩
          · go_tidy
            rw [R.out]
            clear hle R
            simp_all [noR, toList_emp, eqS]
          · (repeat' (first | exact Below.refl _ _ | (refine Below.trans ?_ (Below.mono (by assumption) ?_)) | (refine Below.alloc ?_ ?_ _) | (refine below_drew ?_) | (refine below_drewN ?_ _) | (refine Below.setCell ?_ ?_ _) | omega | (simp; done) | (simp; omega)))
      · by_cases k4 : k = 4
        · subst k4
          have R := Lib.hid (rightR4 ⟨h1, h2⟩ who ⟨a1, a2⟩ ⟨b1, b2⟩ via)
          go_enter Try.func24, Try.ntmps24
          go_wp2_with (first | (go_at_call 42; refine (ref3_IsRole ⟨_, _⟩ _ ?_).mono ?_; (first | exact hle.out.1 | exact hle.out.2.2.1 | exact hle.out.2.2.2.1); rintro e w1 ⟨rfl, hb⟩; obtain ⟨hc1, hf1⟩ := bcell hb; have hz1 := hb.size; (try simp at hz1); have hz2 : w.heap.size < w1.heap.size := (by omega); have hz3 : w.heap.size + 1 < w1.heap.size := (by omega)) | (go_at_call 43; refine (ref3_Less ⟨b1, b2⟩ ⟨a1, a2⟩ _).mono ?_; rintro e w1 ⟨rfl, hb⟩; obtain ⟨hc1, hf1⟩ := bcell hb; have hz1 := hb.size; (try simp at hz1); have hz2 : w.heap.size < w1.heap.size := (by omega); have hz3 : w.heap.size + 1 < w1.heap.size := (by omega)))
          all_goals
            go_ret
            refine ⟨ret_b ?_, ?_⟩
            · go_tidy
              rw [R.out]
              clear hle R
              simp_all [toList_emp, eqS]
            · (repeat' (first | exact Below.refl _ _ | (refine Below.trans ?_ (Below.mono (by assumption) ?_)) | (refine Below.alloc ?_ ?_ _) | (refine below_drew ?_) | (refine below_drewN ?_ _) | (refine Below.setCell ?_ ?_ _) | omega | (simp; done) | (simp; omega)))
        · have R := Lib.hid (rightS0 k ⟨h1, h2⟩ who ⟨a1, a2⟩ ⟨b1, b2⟩ via k1 k2 k3 k4)
          have q1 : (k == 1) = false := by rw [beq_eq_false_iff_ne]; exact k1
          have q2 : (k == 2) = false := by rw [beq_eq_false_iff_ne]; exact k2
          have q3 : (k == 3) = false := by rw [beq_eq_false_iff_ne]; exact k3
          have q4 : k < 1 ∨ 4 < k := by omega
          clear k1 k2 k3 k4
          rcases q4 with q4 | q4
          · have d1 : decide (k < 1) = true := by simp; omega
            go_enter Try.func24, Try.ntmps24
            go_wp2_with (go_at_call 42; refine (ref3_IsRole ⟨_, _⟩ _ ?_).mono ?_; (first | exact hle.out.1 | exact hle.out.2.2.1 | exact hle.out.2.2.2.1); rintro e w1 ⟨rfl, hb⟩; obtain ⟨hc1, hf1⟩ := bcell hb; have hz1 := hb.size; (try simp at hz1); have hz2 : w.heap.size < w1.heap.size := (by omega); have hz3 : w.heap.size + 1 < w1.heap.size := (by omega))
            all_goals
              go_ret
              refine ⟨ret_b ?_, ?_⟩
              · rw [R.out]
              · (repeat' (first | exact Below.refl _ _ | (refine Below.trans ?_ (Below.mono (by assumption) ?_)) | (refine Below.alloc ?_ ?_ _) | (refine below_drew ?_) | (refine below_drewN ?_ _) | (refine Below.setCell ?_ ?_ _) | omega | (simp; done) | (simp; omega)))
          · have d1 : decide (k < 1) = false := by simp; omega
            have d2 : decide (4 < k) = true := by simp; omega
            go_enter Try.func24, Try.ntmps24
            go_wp2_with (go_at_call 42; refine (ref3_IsRole ⟨_, _⟩ _ ?_).mono ?_; (first | exact hle.out.1 | exact hle.out.2.2.1 | exact hle.out.2.2.2.1); rintro e w1 ⟨rfl, hb⟩; obtain ⟨hc1, hf1⟩ := bcell hb; have hz1 := hb.size; (try simp at hz1); have hz2 : w.heap.size < w1.heap.size := (by omega); have hz3 : w.heap.size + 1 < w1.heap.size := (by omega))
            all_goals
              go_ret
              refine ⟨ret_b ?_, ?_⟩
              · rw [R.out]
              · (repeat' (first | exact Below.refl _ _ | (refine Below.trans ?_ (Below.mono (by assumption) ?_)) | (refine Below.alloc ?_ ?_ _) | (refine below_drew ?_) | (refine below_drewN ?_ _) | (refine Below.setCell ?_ ?_ _) | omega | (simp; done) | (simp; omega)))
end Go.Proofs.Ythickpocfplcoaa
namespace Go.Proofs.Ythickpocfplcoaa
open Go.RowKit Go.Shelf

/-- A block of cells that stands whole in a world. -/
def Blk (w : World) (g : Nat) (cs : Array Value) : Prop := (∀ o, w.cell? ⟨g, o, none⟩ = cs[o]?) ∧ (∀ o, w.frozen? ⟨g, o, none⟩ = false) ∧ g < w.heap.size
theorem blk_of {w : World} {g : Nat} {cs : Array Value} {t : TypeId} (h : w.heap[g]? = some (.cells cs t (0, 0))) : Blk w g cs :=
  ⟨fun o => cell_of_row w g o cs t (0, 0) h, fun o => by simp [World.frozen?, h], (Array.getElem?_eq_some_iff.1 h).1⟩
theorem Blk.below {w w' : World} {g : Nat} {cs : Array Value} (h : Blk w g cs) (hb : Below w.heap.size w w') : Blk w' g cs :=
  ⟨fun o => (hb.cell (p := ⟨g, o, none⟩) h.2.2).trans (h.1 o), fun o => (hb.frozen (p := ⟨g, o, none⟩) h.2.2).trans (h.2.1 o), Nat.lt_of_lt_of_le h.2.2 hb.size⟩
theorem Blk.alloc {w : World} {g : Nat} {cs : Array Value} (h : Blk w g cs) (o : Obj) : Blk (w.alloc o) g cs := h.below ((Below.refl _ _).alloc (Nat.le_refl _) o)
theorem Blk.new (w : World) (cs : Array Value) (t : TypeId) : Blk (w.alloc (.cells cs t)) w.heap.size cs := blk_of (heap_new1 _ _)
theorem keep1 {w w' : World} {c1 : Array Value} {t1 : TypeId} (hb : Below (w.alloc (.cells c1 t1)).heap.size (w.alloc (.cells c1 t1)) w') : Blk w' w.heap.size c1 :=
  (Blk.new w c1 t1).below hb
theorem keep2 {w w' : World} {c1 c2 : Array Value} {t1 t2 : TypeId} (hb : Below ((w.alloc (.cells c1 t1)).alloc (.cells c2 t2)).heap.size ((w.alloc (.cells c1 t1)).alloc (.cells c2 t2)) w') :
    Blk w' w.heap.size c1 ∧ Blk w' (w.heap.size + 1) c2 :=
  ⟨((Blk.new w c1 t1).alloc _).below hb, by have := (Blk.new (w.alloc (.cells c1 t1)) c2 t2).below hb; simpa using this⟩

/-- A world in which all that lay in w lies as it lay. -/
structure Nr (w : World) where
  x : World
  h : Below w.heap.size w x
instance (w : World) : Inhabited (Nr w) := ⟨⟨w, Below.refl _ _⟩⟩
/-- A region that draws its order, whose operations read and whose callees make memory at most: walked once, in the text's order. -/
theorem region_near {P : Program} {id : Nat} {Q : Exit → Act → World → Prop} {a : Act} {w : World} {l : List Oper} (hm : P.follows .mixedOrders = true) (hB : Region.lexB .any l.toArray = true)
    (h : wpQuiet P l.toArray (fun w' => ∃ p : Nr w, w' = p.x) (fun a' => ∀ w', (∃ p : Nr w, w' = p.x) → Q .normal a' w') l a) : (Code.region id l.toArray true).wp P Q a w :=
  wp_region_quiet (C := fun w' => ∃ p : Nr w, w' = p.x) hm hB ⟨⟨w.drew, below_drew (Below.refl _ _)⟩, rfl⟩ (by simpa using h)
theorem Calls.near {P : Program} {f : FuncId} {args : Array Value} {w : World} {p : Nr w} {v : Value}
    (h : Calls P f args p.x fun e w' => e = .returned v ∧ Below p.x.heap.size p.x w') : Calls P f args p.x fun e w'' => e = .returned v ∧ ∃ q : Nr w, w'' = q.x :=
  h.mono fun _ w' ⟨he, hb⟩ => ⟨he, ⟨w', p.h.trans (hb.mono p.h.size)⟩, rfl⟩
theorem Blk.near {w : World} {g : Nat} {cs : Array Value} (h : Blk w g cs) : ∀ (p : Nr w) (o : Nat), p.x.cell? ⟨g, o, none⟩ = cs[o]? := fun p o => (h.below p.h).1 o
end Go.Proofs.Ythickpocfplcoaa
namespace Go.Proofs.Ythickpocfplcoaa
open Go.RowKit Go.Shelf

theorem normal_no (k : Int) (h : Rl) (who : ByteArray) (a b : Rl) (via : ByteArray) (h4 : ¬ k = 4) : normalS ⟨k, h, who, a, b, via⟩ = ⟨k, h, who, a, b, via⟩ := by
  unfold normalS; rw [if_neg (fun x => h4 x.1)]
theorem normal_same (h : Rl) (who : ByteArray) (a b : Rl) (via : ByteArray) (hl : lessR b a = false) : normalS ⟨4, h, who, a, b, via⟩ = ⟨4, h, who, a, b, via⟩ := by
  unfold normalS; rw [if_neg (fun x => by rw [hl] at x; cases x.2)]
theorem normal_swap (h : Rl) (who : ByteArray) (a b : Rl) (via : ByteArray) (hl : lessR b a = true) : normalS ⟨4, h, who, a, b, via⟩ = ⟨4, h, who, b, a, via⟩ := by
  unfold normalS; rw [if_pos ⟨rfl, hl⟩]

set_option maxRecDepth 100000 in
set_option maxHeartbeats 4000000 in
theorem syn_Normal (s : St) (w : World) :
    Calls Try.prog 40 #[sv s] w fun e w' => e = .returned (sv (normalS s)) ∧ Below w.heap.size w w' := by
  obtain ⟨k, ⟨h1, h2⟩, who, ⟨a1, a2⟩, ⟨b1, b2⟩, via⟩ := s
  by_cases k4 : k = 4
  · subst k4
    cases hl : lessR ⟨b1, b2⟩ ⟨a1, a2⟩ with
    | true =>
      have R := Lib.hid (normal_swap ⟨h1, h2⟩ who ⟨a1, a2⟩ ⟨b1, b2⟩ via hl)
      have HL := Lib.hid hl
      clear hl
      go_enter Try.func40, Try.ntmps40
      go_wp2_with (go_at_call 55; refine (syn_Less ⟨b1, b2⟩ ⟨a1, a2⟩ _).mono ?_; rw [HL.out]; rintro e w1 ⟨rfl, hb⟩; obtain ⟨⟨ca, fa, za⟩, ⟨cb, fb, zb⟩⟩ := keep2 hb)
      refine bodyPost_ret (v := sv ⟨4, ⟨h1, h2⟩, who, ⟨b1, b2⟩, ⟨a1, a2⟩, via⟩) (by simp [results, Try.results40, go_sem, cb]) rfl ⟨by rw [R.out], ?_⟩
      (repeat' (first | with_reducible exact Below.refl _ _ | with_reducible (refine Below.setCell ?_ ?_ _) | with_reducible (refine Below.alloc ?_ ?_ _) | with_reducible (refine below_drew ?_) | with_reducible (refine below_drewN ?_ _) | with_reducible (refine Below.trans ?_ (Below.mono (by assumption) ?_)) | omega | (simp; done) | (simp; omega)))
    | false =>
      have R := Lib.hid (normal_same ⟨h1, h2⟩ who ⟨a1, a2⟩ ⟨b1, b2⟩ via hl)
      have HL := Lib.hid hl
      clear hl
      go_enter Try.func40, Try.ntmps40
      go_wp2_with (go_at_call 55; refine (syn_Less ⟨b1, b2⟩ ⟨a1, a2⟩ _).mono ?_; rw [HL.out]; rintro e w1 ⟨rfl, hb⟩; obtain ⟨⟨ca, fa, za⟩, ⟨cb, fb, zb⟩⟩ := keep2 hb)
      refine bodyPost_ret (v := sv ⟨4, ⟨h1, h2⟩, who, ⟨a1, a2⟩, ⟨b1, b2⟩, via⟩) (by simp [results, Try.results40, go_sem, cb]) rfl ⟨by rw [R.out], ?_⟩
      (repeat' (first | with_reducible exact Below.refl _ _ | with_reducible (refine Below.setCell ?_ ?_ _) | with_reducible (refine Below.alloc ?_ ?_ _) | with_reducible (refine below_drew ?_) | with_reducible (refine below_drewN ?_ _) | with_reducible (refine Below.trans ?_ (Below.mono (by assumption) ?_)) | omega | (simp; done) | (simp; omega)))
  · have R := Lib.hid (normal_no k ⟨h1, h2⟩ who ⟨a1, a2⟩ ⟨b1, b2⟩ via k4)
    have q4 : (k == 4) = false := by rw [beq_eq_false_iff_ne]; exact k4
    clear k4
    go_enter Try.func40, Try.ntmps40
    go_wp2
    refine bodyPost_ret (v := sv ⟨k, ⟨h1, h2⟩, who, ⟨a1, a2⟩, ⟨b1, b2⟩, via⟩) (by simp [results, Try.results40, go_sem]) rfl ⟨by rw [R.out], ?_⟩
    (repeat' (first | with_reducible exact Below.refl _ _ | with_reducible (refine Below.setCell ?_ ?_ _) | with_reducible (refine Below.alloc ?_ ?_ _) | with_reducible (refine below_drew ?_) | with_reducible (refine below_drewN ?_ _) | with_reducible (refine Below.trans ?_ (Below.mono (by assumption) ?_)) | omega | (simp; done) | (simp; omega)))

theorem printS_no (s : St) (h : rightS s = false) : printS s = emp := by unfold printS; rw [h]; rfl
theorem printS1 (h : Rl) (who : ByteArray) (a b : Rl) (via : ByteArray) (hr : rightS ⟨1, h, who, a, b, via⟩ = true) : printS ⟨1, h, who, a, b, via⟩ = roleT h ++ ⟨#[32, 60, 45, 32]⟩ ++ who := by unfold printS; rw [hr]; rfl
theorem printS2 (h : Rl) (who : ByteArray) (a b : Rl) (via : ByteArray) (hr : rightS ⟨2, h, who, a, b, via⟩ = true) : printS ⟨2, h, who, a, b, via⟩ = roleT h ++ ⟨#[32, 60, 45, 32]⟩ ++ roleT a := by unfold printS; rw [hr]; rfl
theorem printS3 (h : Rl) (who : ByteArray) (a b : Rl) (via : ByteArray) (hr : rightS ⟨3, h, who, a, b, via⟩ = true) : printS ⟨3, h, who, a, b, via⟩ = roleT h ++ ⟨#[32, 60, 45, 32]⟩ ++ (roleT a ++ ⟨#[46]⟩ ++ via) := by unfold printS; rw [hr]; rfl
theorem printS4 (h : Rl) (who : ByteArray) (a b : Rl) (via : ByteArray) (hr : rightS ⟨4, h, who, a, b, via⟩ = true) : printS ⟨4, h, who, a, b, via⟩ = roleT h ++ ⟨#[32, 60, 45, 32]⟩ ++ (roleT a ++ ⟨#[32, 38, 32]⟩ ++ roleT b) := by unfold printS; rw [hr]; rfl
theorem roleT_size (r : Rl) : (roleT r).size = r.o.size + 1 + r.n.size := by simp [roleT, ByteArray.size_append]; rfl
theorem roleT_le (r : Rl) (h : r.le 4294967) : (roleT r).size ≤ 8600000 := by rw [roleT_size]; have := h.1; have := h.2; omega
theorem app_assoc (a b c : ByteArray) : a ++ b ++ c = a ++ (b ++ c) := by
  obtain ⟨⟨x⟩⟩ := a; obtain ⟨⟨y⟩⟩ := b; obtain ⟨⟨z⟩⟩ := c
  apply bl_inj.1
  rw [bl_append, bl_append, bl_append, bl_append, List.append_assoc]

end Go.Proofs.Ythickpocfplcoaa
namespace Go.Proofs.Ythickpocfplcoaa
open Go.RowKit Go.Shelf

/-- The first of some numbers that is not 0. -/
def orL : List Int → Int
  | [] => 0
  | x :: r => if x = 0 then orL r else x
theorem orL_yes {x : Int} {r : List Int} (h : x = 0) : orL (x :: r) = orL r := if_pos h
theorem orL_no {x : Int} {r : List Int} (h : ¬ x = 0) : orL (x :: r) = x := if_neg h
def cmpI (x y : Int) : Int := if x < y then -1 else if y < x then 1 else 0
/-- How two statements stand. -/
def cmpSt (s t : St) : Int := orL [cmpR s.h t.h, cmpI s.k t.k, cmpS s.who t.who, cmpR s.a t.a, cmpR s.b t.b, cmpS s.via t.via]

theorem orL_at {l : List Int} {k : Nat} (h : k < l.length) : l.drop k = l[k] :: l.drop (k + 1) := List.drop_eq_getElem_cons h
theorem orL_end {l : List Int} {k : Nat} (h : ¬ k < l.length) : orL (l.drop k) = 0 := by
  rw [List.drop_eq_nil_of_le (by omega)]; rfl
set_option maxRecDepth 100000 in
set_option maxHeartbeats 1000000 in
theorem cmp_OrL (b n : Nat) (l : List Int) (w : World) (hn : n = l.length) (hm : n ≤ 1000) (h : ∀ i (hi : i < l.length), w.cell? ⟨b, i, none⟩ = some (.int .i64 l[i])) :
    Calls Try.prog 83 #[.slice (some ⟨b, 0, none⟩) n n] w fun e w' => e = .returned (.int .i64 (orL l)) ∧ w = w' := by
  have HH := Lib.hid h
  have HN := Lib.hid hn
  clear h hn
  go_enter Try.func83, Try.ntmps83
  go_wp2
  go_loop [8] (fun i => ∃ k : Nat, k ≤ n ∧ i = .int .i64 k ∧ Hid (orL l = orL (l.drop k))) (fun i => n - (intOf i).toNat)
  case atStart => exact ⟨0, by omega, rfl, Lib.hid (by simp)⟩
  case round =>
    obtain ⟨k, hk, rfl, HX⟩ := hrel
    by_cases hlt : k < n
    · have hl : k < l.length := by have := HN.out; omega
      have p := HH.out k hl
      have HD := Lib.hid (HX.out.trans (congrArg orL (orL_at hl)))
      have d : decide ((k : Int) < (n : Int)) = true := by (rw [decide_eq_true_iff]; omega)
      by_cases hz : l[k] = 0
      · have b1 : (l[k] != 0) = false := by simp [hz]
        have HE := Lib.hid (HD.out.trans (orL_yes hz))
        clear hz
        go_wp2
        exact ⟨⟨k + 1, by omega, by go_num, HE⟩, by simp [intOf]; omega⟩
      · have b1 : (l[k] != 0) = true := by simp [hz]
        have HE := Lib.hid (HD.out.trans (orL_no hz))
        clear hz
        go_wp2
        go_ret
        exact ⟨ret_int HE.out.symm, rfl⟩
    · have d : decide ((k : Int) < (n : Int)) = false := by (rw [decide_eq_false_iff_not]; omega)
      have HE := Lib.hid (HX.out.trans (orL_end (by have := HN.out; omega)))
      go_wp2
      go_ret
      exact ⟨ret_int HE.out.symm, rfl⟩

theorem cmpI_lt {x y : Int} (h : x < y) : cmpI x y = -1 := if_pos h
theorem cmpI_gt {x y : Int} (h : ¬ x < y) (h' : y < x) : cmpI x y = 1 := by unfold cmpI; rw [if_neg h, if_pos h']
theorem cmpI_eq {x y : Int} (h : ¬ x < y) (h' : ¬ y < x) : cmpI x y = 0 := by unfold cmpI; rw [if_neg h, if_neg h']
/-- A call that makes memory, and draws, and does nothing else. -/
structure Gr (w w' : World) : Prop where
  below : Below w.heap.size w w'
  drawn : w.drawn ≤ w'.drawn
theorem Gr.refl (w : World) : Gr w w := ⟨Below.refl _ _, Nat.le_refl _⟩
theorem Gr.trans {w w1 w2 : World} (h : Gr w w1) (h' : Gr w1 w2) : Gr w w2 := ⟨h.below.trans (h'.below.mono h.below.size), Nat.le_trans h.drawn h'.drawn⟩
theorem Gr.alloc {w w1 : World} (h : Gr w w1) (o : Obj) : Gr w (w1.alloc o) := ⟨h.below.alloc h.below.size o, h.drawn⟩
theorem Gr.drewN {w w1 : World} (h : Gr w w1) (n : Nat) : Gr w (w1.drewN n) := ⟨below_drewN h.below n, Nat.le_trans h.drawn (Nat.le_add_right _ _)⟩
theorem Gr.drew {w w1 : World} (h : Gr w w1) : Gr w w1.drew := ⟨below_drew h.below, Nat.le_trans h.drawn (Nat.le_add_right _ _)⟩

set_option maxRecDepth 100000 in
set_option maxHeartbeats 1000000 in
theorem syn_orderG (x y : Rl) (w : World) : Calls Try.prog 65 #[rv x, rv y] w fun e w' => e = .returned (.int .i64 (cmpR x y)) ∧ Gr w w' := by
  obtain ⟨a, b⟩ := x
  obtain ⟨c, d⟩ := y
  go_enter Try.func65, Try.ntmps65
  go_wp2_with fail
  refine region_tail 10 (by kernel_rfl) (by kernel_rfl) ?_
  simp only [List.take_succ_cons, List.take_zero, List.drop_succ_cons, List.drop_zero]
  repeat still_step
  still_call (cmp_call a c _)
  repeat still_step
  still_call (cmp_call b d _)
  repeat still_step
  refine wpStill_nil ?_
  have E := Lib.hid (show cmpR ⟨a, b⟩ ⟨c, d⟩ = orI (cmpS a c) (cmpS b d) from rfl)
  generalize cmpS a c = p at E ⊢
  generalize cmpS b d = q at E ⊢
  go_wp2_with fail
  refine (cmp_Or2 _ p q _ (by simp [go_sem]) (by simp [go_sem])).mono ?_
  rintro e w' ⟨rfl, rfl⟩
  go_wp2
  go_ret
  exact ⟨ret_int (by rw [E.out]), ((((Gr.refl _).alloc _).alloc _).alloc _).drewN 1⟩

end Go.Proofs.Ythickpocfplcoaa
namespace Go.Proofs.Ythickpocfplcoaa
open Go.RowKit

theorem cmp_neg : ∀ (a b : List UInt8), Lib.compareBytes b a = - Lib.compareBytes a b
  | [], [] => rfl
  | [], _ :: _ => rfl
  | _ :: _, [] => rfl
  | a :: xs, b :: ys => by
    simp only [Lib.compareBytes]
    by_cases h1 : a < b
    · have h2 : ¬ b < a := fun h => UInt8.lt_irrefl a (UInt8.lt_trans h1 h)
      simp [h1, h2]
    · by_cases h2 : b < a
      · simp [h1, h2]
      · simp [h1, h2, cmp_neg xs ys]
theorem cmpS_neg (a b : ByteArray) : cmpS b a = - cmpS a b := cmp_neg _ _
theorem cmpR_neg (a b : Rl) : cmpR b a = - cmpR a b := by
  unfold cmpR orI
  rw [cmpS_neg a.o b.o, cmpS_neg a.n b.n]
  by_cases h : cmpS a.o b.o = 0
  · rw [if_pos (by omega), if_pos h]
  · rw [if_neg (by omega), if_neg h]
theorem less_no {a b : Rl} (h : lessR b a = true) : lessR a b = false := by
  simp only [lessR, decide_eq_true_iff, decide_eq_false_iff_not] at h ⊢
  have := cmpR_neg a b
  omega
theorem eqSt_self (s : St) : eqSt s s = true := by simp [eqSt]
end Go.Proofs.Ythickpocfplcoaa
namespace Go.Proofs.Ythickpocfplcoaa

/-- A comparison by a number's sign: what is asked of it. -/
structure WCmp {α : Type} (c : α → α → Int) : Prop where
  neg : ∀ x y, c y x = - c x y
  le : ∀ x y z, c x y ≤ 0 → c y z ≤ 0 → c x z ≤ 0 ∧ (c x z = 0 → c x y = 0 ∧ c y z = 0)
theorem WCmp.on {α β : Type} {c : α → α → Int} (h : WCmp c) (f : β → α) : WCmp (fun x y => c (f x) (f y)) := ⟨fun _ _ => h.neg _ _, fun _ _ _ => h.le _ _ _⟩
theorem WCmp.or {α : Type} {c d : α → α → Int} (h : WCmp c) (h' : WCmp d) : WCmp (fun x y => orI (c x y) (d x y)) := by
  refine ⟨fun x y => ?_, fun x y z => ?_⟩
  · have := h.neg x y; have := h'.neg x y
    unfold orI; split <;> split <;> omega
  · intro h1 h2
    have a1 : c x y ≤ 0 := by unfold orI at h1; split at h1 <;> omega
    have a2 : c y z ≤ 0 := by unfold orI at h2; split at h2 <;> omega
    obtain ⟨b1, b2⟩ := h.le x y z a1 a2
    by_cases h0 : c x z = 0
    · obtain ⟨e1, e2⟩ := b2 h0
      rw [orI_yes e1] at h1 ⊢
      rw [orI_yes e2] at h2 ⊢
      rw [orI_yes h0]
      exact h'.le x y z h1 h2
    · rw [orI_no h0]
      exact ⟨b1, fun e => absurd e h0⟩
theorem wcmp_int : WCmp cmpI := by
  refine ⟨fun x y => ?_, fun x y z => ?_⟩
  · unfold cmpI; split <;> split <;> (try split) <;> omega
  · unfold cmpI
    intro h1 h2
    split at h1 <;> split at h2 <;> (try split at h1) <;> (try split at h2) <;> (constructor <;> (try split) <;> (try split) <;> omega)
theorem cb_lt {a b : UInt8} (xs ys : List UInt8) (h : a.toNat < b.toNat) : Lib.compareBytes (a :: xs) (b :: ys) = -1 := by
  simp only [Lib.compareBytes]; rw [if_pos (UInt8.lt_iff_toNat_lt.2 h)]
theorem cb_gt {a b : UInt8} (xs ys : List UInt8) (h : b.toNat < a.toNat) : Lib.compareBytes (a :: xs) (b :: ys) = 1 := by
  simp only [Lib.compareBytes]; rw [if_neg (fun h' => by have := UInt8.lt_iff_toNat_lt.1 h'; omega), if_pos (UInt8.lt_iff_toNat_lt.2 h)]
theorem cb_eq (a : UInt8) (xs ys : List UInt8) : Lib.compareBytes (a :: xs) (a :: ys) = Lib.compareBytes xs ys := by
  simp only [Lib.compareBytes]; rw [if_neg (UInt8.lt_irrefl a), if_neg (UInt8.lt_irrefl a)]
theorem cmpB_le : ∀ (a b c : List UInt8), Lib.compareBytes a b ≤ 0 → Lib.compareBytes b c ≤ 0 → Lib.compareBytes a c ≤ 0 ∧ (Lib.compareBytes a c = 0 → Lib.compareBytes a b = 0 ∧ Lib.compareBytes b c = 0)
  | [], [], c, _, h2 => ⟨h2, fun h => ⟨rfl, h⟩⟩
  | [], y :: ys, [], h1, h2 => by simp [Lib.compareBytes] at h2
  | [], y :: ys, z :: zs, h1, h2 => by simp [Lib.compareBytes]
  | x :: xs, [], c, h1, h2 => by simp [Lib.compareBytes] at h1
  | x :: xs, y :: ys, [], h1, h2 => by simp [Lib.compareBytes] at h2
  | x :: xs, y :: ys, z :: zs, h1, h2 => by
    have ih := cmpB_le xs ys zs
    rcases Nat.lt_trichotomy x.toNat y.toNat with a1 | a1 | a1
    · rcases Nat.lt_trichotomy y.toNat z.toNat with b1 | b1 | b1
      · rw [cb_lt xs zs (Nat.lt_trans a1 b1)]; exact ⟨by omega, fun h => by omega⟩
      · rw [cb_lt xs zs (by omega)]; exact ⟨by omega, fun h => by omega⟩
      · rw [cb_gt ys zs b1] at h2; omega
    · obtain rfl := UInt8.toNat_inj.1 a1
      rcases Nat.lt_trichotomy x.toNat z.toNat with b1 | b1 | b1
      · rw [cb_lt xs zs b1]; exact ⟨by omega, fun h => by omega⟩
      · obtain rfl := UInt8.toNat_inj.1 b1
        rw [cb_eq] at h1 h2
        rw [cb_eq, cb_eq, cb_eq]
        exact ih h1 h2
      · rw [cb_gt ys zs b1] at h2; omega
    · rw [cb_gt xs ys a1] at h1; omega
theorem wcmp_str : WCmp cmpS := ⟨cmpS_neg, fun _ _ _ => cmpB_le _ _ _⟩
theorem wcmp_rl : WCmp cmpR := (wcmp_str.on Rl.o).or (wcmp_str.on Rl.n)
theorem orL_one (x : Int) : orL [x] = x := by
  by_cases h : x = 0
  · rw [orL_yes h, h]; rfl
  · rw [orL_no h]
theorem orL_cons (x : Int) (r : List Int) : orL (x :: r) = orI x (orL r) := rfl
theorem orL_last (x : Int) : orI x (orL []) = x := orL_one x
theorem cmpSt_def (x y : St) : cmpSt x y = orI (cmpR x.h y.h) (orI (cmpI x.k y.k) (orI (cmpS x.who y.who) (orI (cmpR x.a y.a) (orI (cmpR x.b y.b) (cmpS x.via y.via))))) := by
  simp only [cmpSt, orL_cons, orL_last]
theorem wcmp_st : WCmp cmpSt := by
  have h := (wcmp_rl.on St.h).or ((wcmp_int.on St.k).or ((wcmp_str.on St.who).or ((wcmp_rl.on St.a).or ((wcmp_rl.on St.b).or (wcmp_str.on St.via)))))
  have e : cmpSt = fun x y => orI (cmpR x.h y.h) (orI (cmpI x.k y.k) (orI (cmpS x.who y.who) (orI (cmpR x.a y.a) (orI (cmpR x.b y.b) (cmpS x.via y.via))))) := by
    funext x y
    exact cmpSt_def x y
  rw [e]; exact h
theorem orI_zero {x y : Int} : orI x y = 0 ↔ x = 0 ∧ y = 0 := by
  unfold orI; split <;> omega
theorem cmpI_zero (x y : Int) : cmpI x y = 0 ↔ x = y := by unfold cmpI; split <;> (try split) <;> omega
theorem cmpR_zero (x y : Rl) : cmpR x y = 0 ↔ x = y := by
  obtain ⟨a, b⟩ := x; obtain ⟨c, d⟩ := y
  simp only [cmpR, orI_zero, cmpS_zero, Rl.mk.injEq]
theorem cmpSt_zero (x y : St) : cmpSt x y = 0 ↔ x = y := by
  obtain ⟨k, h, who, a, b, via⟩ := x; obtain ⟨k', h', who', a', b', via'⟩ := y
  simp only [cmpSt_def, orI_zero, cmpR_zero, cmpS_zero, cmpI_zero, St.mk.injEq]
  constructor
  · rintro ⟨a, b, c, d, e, f⟩; exact ⟨b, a, c, d, e, f⟩
  · rintro ⟨a, b, c, d, e, f⟩; exact ⟨b, a, c, d, e, f⟩
def sgn (x : Int) : Prop := x = -1 ∨ x = 0 ∨ x = 1
theorem sgn_or {x y : Int} (h : sgn x) (h' : sgn y) : sgn (orI x y) := by unfold orI; split <;> assumption
theorem sgn_bytes : ∀ (a b : List UInt8), sgn (Lib.compareBytes a b)
  | [], [] => .inr (.inl rfl)
  | [], _ :: _ => .inl rfl
  | _ :: _, [] => .inr (.inr rfl)
  | a :: xs, b :: ys => by
    simp only [Lib.compareBytes]
    split
    · exact .inl rfl
    · split
      · exact .inr (.inr rfl)
      · exact sgn_bytes xs ys
theorem sgn_rl (x y : Rl) : sgn (cmpR x y) := sgn_or (sgn_bytes _ _) (sgn_bytes _ _)
theorem sgn_int (x y : Int) : sgn (cmpI x y) := by unfold cmpI sgn; split <;> (try split) <;> omega
theorem sgn_st (x y : St) : sgn (cmpSt x y) := by
  rw [cmpSt_def]
  exact sgn_or (sgn_rl _ _) (sgn_or (sgn_int _ _) (sgn_or (sgn_bytes _ _) (sgn_or (sgn_rl _ _) (sgn_or (sgn_rl _ _) (sgn_bytes _ _)))))
theorem lt_trans' {x y z : St} (h : cmpSt x y < 0) (h' : cmpSt y z < 0) : cmpSt x z < 0 := by
  obtain ⟨a, b⟩ := wcmp_st.le x y z (by omega) (by omega)
  have : ¬ cmpSt x z = 0 := fun e => by have := (b e).1; omega
  omega
theorem lt_irrefl' (x : St) : ¬ cmpSt x x < 0 := by have := (cmpSt_zero x x).2 rfl; omega

/-- A row in strict order. -/
def Asc (l : List St) : Prop := l.Pairwise fun x y => cmpSt x y < 0
theorem asc_unique : ∀ (l m : List St), Asc l → Asc m → (∀ x, x ∈ l ↔ x ∈ m) → l = m
  | [], [], _, _, _ => rfl
  | [], y :: m, _, _, h => absurd ((h y).2 (by simp)) (by simp)
  | x :: l, [], _, _, h => absurd ((h x).1 (by simp)) (by simp)
  | x :: l, y :: m, hl, hm, h => by
    have hl' := List.pairwise_cons.1 hl
    have hm' := List.pairwise_cons.1 hm
    have e : x = y := by
      rcases List.mem_cons.1 ((h x).1 (by simp)) with e | e
      · exact e
      · rcases List.mem_cons.1 ((h y).2 (by simp)) with e' | e'
        · exact e'.symm
        · exact absurd (lt_trans' (hm'.1 x e) (hl'.1 y e')) (lt_irrefl' y)
    subst e
    refine congrArg (x :: ·) (asc_unique l m hl'.2 hm'.2 fun z => ?_)
    constructor
    · intro hz
      rcases List.mem_cons.1 ((h z).1 (by simp [hz])) with e | e
      · subst e; exact absurd (hl'.1 z hz) (lt_irrefl' z)
      · exact e
    · intro hz
      rcases List.mem_cons.1 ((h z).2 (by simp [hz])) with e | e
      · subst e; exact absurd (hm'.1 z hz) (lt_irrefl' z)
      · exact e

/-- A row in order without those that stand twice. -/
def dedup : List St → List St
  | [] => []
  | [x] => [x]
  | x :: y :: r => if x = y then dedup (y :: r) else x :: dedup (y :: r)
theorem dedup_mem : ∀ (l : List St) (z : St), z ∈ dedup l ↔ z ∈ l
  | [], z => by simp [dedup]
  | [x], z => by simp [dedup]
  | x :: y :: r, z => by
    have ih := dedup_mem (y :: r) z
    unfold dedup
    by_cases e : x = y
    · rw [if_pos e, ih, e]; simp
    · rw [if_neg e, List.mem_cons, ih, List.mem_cons (b := x)]
theorem dedup_asc : ∀ (l : List St), (l.Pairwise fun x y => cmpSt x y ≤ 0) → Asc (dedup l)
  | [], _ => List.Pairwise.nil
  | [x], _ => by simp [dedup, Asc]
  | x :: y :: r, h => by
    have h' := List.pairwise_cons.1 h
    have ih := dedup_asc (y :: r) h'.2
    unfold dedup
    by_cases e : x = y
    · rw [if_pos e]; exact ih
    · rw [if_neg e]
      refine List.pairwise_cons.2 ⟨fun z hz => ?_, ih⟩
      have hxy : cmpSt x y < 0 := by
        have := h'.1 y (by simp)
        have h0 : ¬ cmpSt x y = 0 := fun e' => e ((cmpSt_zero x y).1 e')
        omega
      have hz' := (dedup_mem (y :: r) z).1 hz
      rcases List.mem_cons.1 hz' with rfl | hz'
      · exact hxy
      · have hyz := (List.pairwise_cons.1 h'.2).1 z hz'
        obtain ⟨a, b⟩ := wcmp_st.le x y z (by omega) hyz
        have : ¬ cmpSt x z = 0 := fun e => by have := (b e).1; omega
        omega
end Go.Proofs.Ythickpocfplcoaa
namespace Go.Proofs.Ythickpocfplcoaa
open Go.RowKit Go.Shelf

theorem rolesS_two {s : St} (h : s.k = 2 ∨ s.k = 3) : rolesS s = [s.h, s.a] := by unfold rolesS; rw [if_pos h]
theorem rolesS_three {s : St} (h : s.k = 4) : rolesS s = [s.h, s.a, s.b] := by unfold rolesS; rw [if_neg (by omega), if_pos h]
theorem rolesS_one {s : St} (h : ¬ s.k = 2) (h3 : ¬ s.k = 3) (h4 : ¬ s.k = 4) : rolesS s = [s.h] := by unfold rolesS; rw [if_neg (by omega), if_neg h4]
/-- A slice whose block has just been made. -/
theorem Sl.new (w : World) (cs : List Value) (t : TypeId) (size n g : Nat) (hg : g = w.heap.size) (hl : cs.length = n * size) (hm : n ≤ maxLen) :
    Sl (w.alloc (.cells cs.toArray t)) size (.slice (some ⟨g, 0, none⟩) n n) n cs := by
  subst hg
  refine ⟨hl, hm, .inr ⟨w.heap.size, 0, n, rfl, Nat.le_refl _, hm, by simp, fun j u hu => ?_⟩⟩
  rw [(Blk.new w cs.toArray t).1]
  simpa using hu

set_option maxRecDepth 100000 in
set_option maxHeartbeats 4000000 in
theorem syn_Roles (s : St) (w : World) :
    Calls Try.prog 69 #[sv s] w fun e w' => ∃ v, e = .returned v ∧ Sl w' 2 v (rolesS s).length ((rolesS s).flatMap Rl.cells) ∧ Below w.heap.size w w' := by
  obtain ⟨k, ⟨h1, h2⟩, who, ⟨a1, a2⟩, ⟨b1, b2⟩, via⟩ := s
  by_cases k2 : k = 2
  · subst k2
    rw [rolesS_two (.inl rfl)]
    go_enter Try.func69, Try.ntmps69
    go_wp2
    go_ret
    refine ⟨.slice (some ⟨w.heap.size + 1, 0, none⟩) 2 2, rfl, Sl.new _ [.string h1, .string h2, .string a1, .string a2] _ 2 2 (w.heap.size + 1) (by simp) rfl (by simp [maxLen]), ((Below.refl _ _).alloc (Nat.le_refl _) _).alloc (by simp) _⟩
  by_cases k3 : k = 3
  · subst k3
    rw [rolesS_two (.inr rfl)]
    go_enter Try.func69, Try.ntmps69
    go_wp2
    go_ret
    refine ⟨.slice (some ⟨w.heap.size + 1, 0, none⟩) 2 2, rfl, Sl.new _ [.string h1, .string h2, .string a1, .string a2] _ 2 2 (w.heap.size + 1) (by simp) rfl (by simp [maxLen]), ((Below.refl _ _).alloc (Nat.le_refl _) _).alloc (by simp) _⟩
  by_cases k4 : k = 4
  · subst k4
    rw [rolesS_three rfl]
    go_enter Try.func69, Try.ntmps69
    go_wp2
    go_ret
    refine ⟨.slice (some ⟨w.heap.size + 1, 0, none⟩) 3 3, rfl, Sl.new _ [.string h1, .string h2, .string a1, .string a2, .string b1, .string b2] _ 2 3 (w.heap.size + 1) (by simp) rfl (by simp [maxLen]), ((Below.refl _ _).alloc (Nat.le_refl _) _).alloc (by simp) _⟩
  have q2 : (k == 2) = false := by rw [beq_eq_false_iff_ne]; exact k2
  have q3 : (k == 3) = false := by rw [beq_eq_false_iff_ne]; exact k3
  have q4 : (k == 4) = false := by rw [beq_eq_false_iff_ne]; exact k4
  rw [rolesS_one k2 k3 k4]
  clear k2 k3 k4
  go_enter Try.func69, Try.ntmps69
  go_wp2
  go_ret
  refine ⟨.slice (some ⟨w.heap.size + 1, 0, none⟩) 1 1, rfl, Sl.new _ [.string h1, .string h2] _ 2 1 (w.heap.size + 1) (by simp) rfl (by simp [maxLen]), ((Below.refl _ _).alloc (Nat.le_refl _) _).alloc (by simp) _⟩

theorem rl_cell {w : World} {b off : Nat} {l : List Rl} (h : ∀ j u, (l.flatMap Rl.cells)[j]? = some u → w.cell? ⟨b, off + j, none⟩ = some u) (k : Nat) (hk : k < l.length) :
    w.cell? ⟨b, off + k * 2, none⟩ = some (.string l[k].o) ∧ w.cell? ⟨b, off + k * 2 + 1, none⟩ = some (.string l[k].n) := by
  have hx : l[k]? = some l[k] := List.getElem?_eq_getElem hk
  have h0 := h _ _ ((flat_get Rl.cells 2 Rl.cells_len l k 0 (by omega) _ hx).trans rfl)
  have h1 := h _ _ ((flat_get Rl.cells 2 Rl.cells_len l k 1 (by omega) _ hx).trans rfl)
  exact ⟨h0, h1⟩
end Go.Proofs.Ythickpocfplcoaa
namespace Go.Proofs.Ythickpocfplcoaa
open Go.RowKit Go.Shelf

theorem cmpI_neg' (x y : Int) : decide (cmpI x y < 0) = decide (x < y) := by
  unfold cmpI; split
  · rename_i h; simp [h]
  · rename_i h; split <;> simp [h]
theorem str_less (a b : ByteArray) : decide (cmpS a b < 0) = Op.bytesLess a.toList b.toList := by
  rw [toList_bl, toList_bl, cmp_less]; rfl
section
variable {s t : St}
theorem bef1 (h : ¬ s.h = t.h) : decide (cmpSt s t < 0) = lessR s.h t.h := by
  rw [cmpSt_def, orI_no (fun e => h ((cmpR_zero _ _).1 e))]; rfl
theorem bef2 (h1 : s.h = t.h) (h2 : ¬ s.k = t.k) : decide (cmpSt s t < 0) = decide (s.k < t.k) := by
  rw [cmpSt_def, orI_yes ((cmpR_zero _ _).2 h1), orI_no (fun e => h2 ((cmpI_zero _ _).1 e)), cmpI_neg']
theorem bef3 (h1 : s.h = t.h) (h2 : s.k = t.k) (h3 : ¬ s.who = t.who) : decide (cmpSt s t < 0) = Op.bytesLess s.who.toList t.who.toList := by
  rw [cmpSt_def, orI_yes ((cmpR_zero _ _).2 h1), orI_yes ((cmpI_zero _ _).2 h2), orI_no (fun e => h3 ((cmpS_zero _ _).1 e)), str_less]
theorem bef4 (h1 : s.h = t.h) (h2 : s.k = t.k) (h3 : s.who = t.who) (h4 : ¬ s.a = t.a) : decide (cmpSt s t < 0) = lessR s.a t.a := by
  rw [cmpSt_def, orI_yes ((cmpR_zero _ _).2 h1), orI_yes ((cmpI_zero _ _).2 h2), orI_yes ((cmpS_zero _ _).2 h3), orI_no (fun e => h4 ((cmpR_zero _ _).1 e))]; rfl
theorem bef5 (h1 : s.h = t.h) (h2 : s.k = t.k) (h3 : s.who = t.who) (h4 : s.a = t.a) (h5 : ¬ s.b = t.b) : decide (cmpSt s t < 0) = lessR s.b t.b := by
  rw [cmpSt_def, orI_yes ((cmpR_zero _ _).2 h1), orI_yes ((cmpI_zero _ _).2 h2), orI_yes ((cmpS_zero _ _).2 h3), orI_yes ((cmpR_zero _ _).2 h4), orI_no (fun e => h5 ((cmpR_zero _ _).1 e))]; rfl
theorem bef6 (h1 : s.h = t.h) (h2 : s.k = t.k) (h3 : s.who = t.who) (h4 : s.a = t.a) (h5 : s.b = t.b) : decide (cmpSt s t < 0) = Op.bytesLess s.via.toList t.via.toList := by
  rw [cmpSt_def, orI_yes ((cmpR_zero _ _).2 h1), orI_yes ((cmpI_zero _ _).2 h2), orI_yes ((cmpS_zero _ _).2 h3), orI_yes ((cmpR_zero _ _).2 h4), orI_yes ((cmpR_zero _ _).2 h5), str_less]
end

end Go.Proofs.Ythickpocfplcoaa
namespace Go.Proofs.Ythickpocfplcoaa
open Go.RowKit Go.Shelf

def hasB (l : List ByteArray) (s : ByteArray) : Bool := l.any (fun x => decide (x = s))
theorem hasB_yes {l : List ByteArray} {s : ByteArray} {k : Nat} (hl : k < l.length) (e : l[k] = s) : hasB l s = true := by
  unfold hasB; rw [List.any_eq_true]; exact ⟨l[k], List.getElem_mem hl, by simp [e]⟩
theorem hasB_end {l : List ByteArray} {s : ByteArray} {k : Nat} (hk : ¬ k < l.length) (h : ∀ j (hj : j < l.length), j < k → ¬ l[j] = s) : hasB l s = false := by
  unfold hasB; rw [List.any_eq_false]
  intro x hx
  obtain ⟨j, hj, rfl⟩ := List.getElem_of_mem hx
  simp [h j hj (by omega)]
/-- The place of a statement in a row in order. -/
def posSB : List ByteArray → ByteArray → Nat
  | [], _ => 0
  | a :: r, x => if cmpS a x < 0 then posSB r x + 1 else 0
def insAtB (l : List ByteArray) (x : ByteArray) (k : Nat) : List ByteArray := l.take k ++ x :: l.drop k
def insSB (l : List ByteArray) (x : ByteArray) : List ByteArray := if hasB l x then l else insAtB l x (posSB l x)
def insAllB : List ByteArray → List ByteArray → List ByteArray
  | acc, [] => acc
  | acc, x :: l => insAllB (insSB acc x) l
theorem pos_leB : ∀ (l : List ByteArray) (x : ByteArray), posSB l x ≤ l.length
  | [], _ => Nat.le_refl _
  | a :: r, x => by unfold posSB; have := pos_leB r x; split <;> simp <;> omega
theorem pos_ofB : ∀ (l : List ByteArray) (x : ByteArray) (k : Nat), k ≤ l.length → (∀ j (hj : j < l.length), j < k → cmpS l[j] x < 0) → (∀ hk : k < l.length, ¬ cmpS l[k] x < 0) → posSB l x = k
  | [], x, k, hk, _, _ => by simp at hk; subst hk; rfl
  | a :: r, x, 0, _, _, h => by
    have h' : ¬ cmpS a x < 0 := h (by simp)
    unfold posSB; rw [if_neg h']
  | a :: r, x, k + 1, hk, h1, h2 => by
    have h' : cmpS a x < 0 := h1 0 (by simp) (by omega)
    unfold posSB
    rw [if_pos h', pos_ofB r x k (by simpa using hk) (fun j hj hjk => h1 (j + 1) (by simp; omega) (by omega)) (fun hk' => h2 (by simp; omega))]
theorem insS_lenB (l : List ByteArray) (x : ByteArray) : (insSB l x).length ≤ l.length + 1 := by
  unfold insSB insAtB; split
  · omega
  · simp [List.length_take, List.length_drop]; have := pos_leB l x; omega
theorem insAll_stepB (acc l : List ByteArray) (k : Nat) (hk : k < l.length) : insAllB acc (l.drop k) = insAllB (insSB acc l[k]) (l.drop (k + 1)) := by
  rw [List.drop_eq_getElem_cons hk]; rfl
theorem insAll_endB (acc l : List ByteArray) (k : Nat) (hk : ¬ k < l.length) : insAllB acc (l.drop k) = acc := by
  rw [List.drop_eq_nil_of_le (by omega)]; rfl
theorem insS_hasB {l : List ByteArray} {x : ByteArray} (h : hasB l x = true) : insSB l x = l := if_pos h
theorem insS_notB {l : List ByteArray} {x : ByteArray} (h : hasB l x = false) : insSB l x = insAtB l x (posSB l x) := if_neg (by rw [h]; exact Bool.false_ne_true)
theorem insAt_lenB {l : List ByteArray} {x : ByteArray} {j : Nat} (hj : j ≤ l.length) : (insAtB l x j).length = j + 1 + (l.length - j) := by
  unfold insAtB; rw [List.length_append, List.length_cons, List.length_take, List.length_drop]; omega
theorem insAt_endB {l : List ByteArray} {x : ByteArray} : (insAtB l x l.length).length = l.length + 1 := by rw [insAt_lenB (Nat.le_refl _)]; omega
theorem eqB_self (x : ByteArray) : decide (x = x) = true := decide_eq_true rfl
theorem hasB_mem (l : List ByteArray) (x : ByteArray) : hasB l x = true ↔ x ∈ l := by
  unfold hasB; rw [List.any_eq_true]
  constructor
  · rintro ⟨y, hy, e⟩; rw [← of_decide_eq_true e]; exact hy
  · intro h; exact ⟨x, h, eqB_self x⟩
theorem lt_trans'B {x y z : ByteArray} (h : cmpS x y < 0) (h' : cmpS y z < 0) : cmpS x z < 0 := by
  obtain ⟨a, b⟩ := wcmp_str.le x y z (by omega) (by omega)
  have : ¬ cmpS x z = 0 := fun e => by have := (b e).1; omega
  omega
theorem lt_irrefl'B (x : ByteArray) : ¬ cmpS x x < 0 := by have := (cmpS_zero x x).2 rfl; omega
/-- A row in strict order. -/
def AscB (l : List ByteArray) : Prop := l.Pairwise fun x y => cmpS x y < 0
theorem asc_uniqueB : ∀ (l m : List ByteArray), AscB l → AscB m → (∀ x, x ∈ l ↔ x ∈ m) → l = m
  | [], [], _, _, _ => rfl
  | [], y :: m, _, _, h => absurd ((h y).2 (by simp)) (by simp)
  | x :: l, [], _, _, h => absurd ((h x).1 (by simp)) (by simp)
  | x :: l, y :: m, hl, hm, h => by
    have hl' := List.pairwise_cons.1 hl
    have hm' := List.pairwise_cons.1 hm
    have e : x = y := by
      rcases List.mem_cons.1 ((h x).1 (by simp)) with e | e
      · exact e
      · rcases List.mem_cons.1 ((h y).2 (by simp)) with e' | e'
        · exact e'.symm
        · exact absurd (lt_trans'B (hm'.1 x e) (hl'.1 y e')) (lt_irrefl'B y)
    subst e
    refine congrArg (x :: ·) (asc_uniqueB l m hl'.2 hm'.2 fun z => ?_)
    constructor
    · intro hz
      rcases List.mem_cons.1 ((h z).1 (by simp [hz])) with e | e
      · subst e; exact absurd (hl'.1 z hz) (lt_irrefl'B z)
      · exact e
    · intro hz
      rcases List.mem_cons.1 ((h z).2 (by simp [hz])) with e | e
      · subst e; exact absurd (hm'.1 z hz) (lt_irrefl'B z)
      · exact e
/-- A row in order without those that stand twice. -/
def dedupB : List ByteArray → List ByteArray
  | [] => []
  | [x] => [x]
  | x :: y :: r => if x = y then dedupB (y :: r) else x :: dedupB (y :: r)
theorem dedup_memB : ∀ (l : List ByteArray) (z : ByteArray), z ∈ dedupB l ↔ z ∈ l
  | [], z => by simp [dedupB]
  | [x], z => by simp [dedupB]
  | x :: y :: r, z => by
    have ih := dedup_memB (y :: r) z
    unfold dedupB
    by_cases e : x = y
    · rw [if_pos e, ih, e]; simp
    · rw [if_neg e, List.mem_cons, ih, List.mem_cons (b := x)]
theorem dedup_ascB : ∀ (l : List ByteArray), (l.Pairwise fun x y => cmpS x y ≤ 0) → AscB (dedupB l)
  | [], _ => List.Pairwise.nil
  | [x], _ => by simp [dedupB, AscB]
  | x :: y :: r, h => by
    have h' := List.pairwise_cons.1 h
    have ih := dedup_ascB (y :: r) h'.2
    unfold dedupB
    by_cases e : x = y
    · rw [if_pos e]; exact ih
    · rw [if_neg e]
      refine List.pairwise_cons.2 ⟨fun z hz => ?_, ih⟩
      have hxy : cmpS x y < 0 := by
        have := h'.1 y (by simp)
        have h0 : ¬ cmpS x y = 0 := fun e' => e ((cmpS_zero x y).1 e')
        omega
      have hz' := (dedup_memB (y :: r) z).1 hz
      rcases List.mem_cons.1 hz' with rfl | hz'
      · exact hxy
      · have hyz := (List.pairwise_cons.1 h'.2).1 z hz'
        obtain ⟨a, b⟩ := wcmp_str.le x y z (by omega) hyz
        have : ¬ cmpS x z = 0 := fun e => by have := (b e).1; omega
        omega
theorem insS_memB (l : List ByteArray) (x z : ByteArray) : z ∈ insSB l x ↔ z ∈ l ∨ z = x := by
  unfold insSB
  by_cases h : hasB l x = true
  · rw [if_pos h]
    exact ⟨.inl, fun h' => h'.elim id (fun e => e ▸ (hasB_mem l x).1 h)⟩
  · rw [if_neg h]
    unfold insAtB
    rw [List.mem_append, List.mem_cons]
    have := List.take_append_drop (posSB l x) l
    constructor
    · rintro (h | h | h)
      · exact .inl (List.mem_of_mem_take h)
      · exact .inr h
      · exact .inl (List.mem_of_mem_drop h)
    · rintro (h | h)
      · rw [← this] at h
        rcases List.mem_append.1 h with h | h
        · exact .inl h
        · exact .inr (.inr h)
      · exact .inr (.inl h)
theorem pos_takeB : ∀ (l : List ByteArray) (x z : ByteArray), z ∈ l.take (posSB l x) → cmpS z x < 0
  | [], _, _, h => by simp at h
  | a :: r, x, z, h => by
    unfold posSB at h
    by_cases ha : cmpS a x < 0
    · rw [if_pos ha] at h
      rcases List.mem_cons.1 (by simpa using h) with rfl | h
      · exact ha
      · exact pos_takeB r x z h
    · rw [if_neg ha] at h; simp at h
theorem pos_dropB : ∀ (l : List ByteArray) (x z : ByteArray), AscB l → z ∈ l.drop (posSB l x) → ¬ cmpS z x < 0
  | [], _, _, _, h => by simp at h
  | a :: r, x, z, hl, h => by
    unfold posSB at h
    by_cases ha : cmpS a x < 0
    · rw [if_pos ha] at h
      exact pos_dropB r x z (List.pairwise_cons.1 hl).2 (by simpa using h)
    · rw [if_neg ha] at h
      rcases List.mem_cons.1 (by simpa using h) with rfl | h
      · exact ha
      · have := (List.pairwise_cons.1 hl).1 z h
        intro hz; exact ha (lt_trans'B this hz)
theorem insS_ascB {l : List ByteArray} (h : AscB l) (x : ByteArray) : AscB (insSB l x) := by
  unfold insSB
  by_cases hx : hasB l x = true
  · rw [if_pos hx]; exact h
  · rw [if_neg hx]
    have hn : ¬ x ∈ l := fun h' => hx ((hasB_mem l x).2 h')
    have h1 : AscB (l.take (posSB l x)) := h.sublist (List.take_sublist _ _)
    have h2 : AscB (l.drop (posSB l x)) := h.sublist (List.drop_sublist _ _)
    have h3 : ∀ a ∈ l.take (posSB l x), ∀ b ∈ l.drop (posSB l x), cmpS a b < 0 := by
      have := h
      rw [AscB, ← List.take_append_drop (posSB l x) l, List.pairwise_append] at this
      exact this.2.2
    unfold insAtB AscB
    rw [List.pairwise_append, List.pairwise_cons]
    refine ⟨h1, ⟨fun b hb => ?_, h2⟩, fun a ha b hb => ?_⟩
    · have h4 := pos_dropB l x b h hb
      have h5 : ¬ cmpS b x = 0 := fun e => hn ((cmpS_zero b x).1 e ▸ List.mem_of_mem_drop hb)
      have := wcmp_str.neg b x
      omega
    · rcases List.mem_cons.1 hb with rfl | hb
      · exact pos_takeB l b a ha
      · exact h3 a ha b hb
theorem insAll_ascB : ∀ (l acc : List ByteArray), AscB acc → AscB (insAllB acc l)
  | [], _, h => h
  | x :: l, acc, h => insAll_ascB l _ (insS_ascB h x)
theorem insAll_memB : ∀ (l acc : List ByteArray) (z : ByteArray), z ∈ insAllB acc l ↔ z ∈ acc ∨ z ∈ l
  | [], acc, z => by simp [insAllB]
  | x :: l, acc, z => by
    unfold insAllB
    rw [insAll_memB l, insS_memB, List.mem_cons, or_assoc]
/-- A row in order, each once. -/
def ordB (l : List ByteArray) : List ByteArray := insAllB [] l
theorem ord_ascB (l : List ByteArray) : AscB (ordB l) := insAll_ascB l [] List.Pairwise.nil
theorem ord_memB (l : List ByteArray) (x : ByteArray) : x ∈ ordB l ↔ x ∈ l := by unfold ordB; rw [insAll_memB]; simp
theorem ord_extB {l m : List ByteArray} (h : ∀ x, x ∈ l ↔ x ∈ m) : ordB l = ordB m := asc_uniqueB _ _ (ord_ascB _) (ord_ascB _) (fun x => by rw [ord_memB, ord_memB]; exact h x)
theorem asc_ordB {l : List ByteArray} (h : AscB l) : ordB l = l := asc_uniqueB _ _ (ord_ascB _) h (ord_memB l)
theorem ord_filterB (l : List ByteArray) (p : ByteArray → Bool) : ordB (l.filter p) = (ordB l).filter p :=
  asc_uniqueB _ _ (ord_ascB _) ((ord_ascB l).filter _) (fun x => by simp [ord_memB])
theorem insAll_lenB : ∀ (l acc : List ByteArray), (insAllB acc l).length ≤ acc.length + l.length
  | [], acc => Nat.le_refl _
  | x :: r, acc => by
    have h1 := insAll_lenB r (insSB acc x)
    have h2 := insS_lenB acc x
    show (insAllB (insSB acc x) r).length ≤ acc.length + (r.length + 1)
    omega
theorem ord_lenB (l : List ByteArray) : (ordB l).length ≤ l.length := by have := insAll_lenB l []; simpa [ordB] using this
theorem filter_takeB {l : List ByteArray} {p : ByteArray → Bool} {k : Nat} (h : k < l.length) : (l.take (k + 1)).filter p = (l.take k).filter p ++ (if p l[k] = true then [l[k]] else []) := by
  rw [List.take_succ_eq_append_getElem h, List.filter_append]
  cases hp : p l[k] <;> simp [hp]
theorem filter_yesB {l : List ByteArray} {p : ByteArray → Bool} {k : Nat} (h : k < l.length) (hp : p l[k] = true) : (l.take (k + 1)).filter p = (l.take k).filter p ++ [l[k]] := by
  rw [filter_takeB h, if_pos hp]
theorem filter_noB {l : List ByteArray} {p : ByteArray → Bool} {k : Nat} (h : k < l.length) (hp : p l[k] = false) : (l.take (k + 1)).filter p = (l.take k).filter p := by
  rw [filter_takeB h, if_neg (by rw [hp]; exact Bool.false_ne_true), List.append_nil]
end Go.Proofs.Ythickpocfplcoaa
namespace Go.Proofs.Ythickpocfplcoaa
open Go.RowKit Go.Shelf

/-- The row of all texts, in order, each once. -/
def newB (l : List ByteArray) : List ByteArray := insAllB [] l
theorem new_asc (l : List ByteArray) : AscB (newB l) := insAll_ascB l [] List.Pairwise.nil
theorem new_mem (l : List ByteArray) (x : ByteArray) : x ∈ newB l ↔ x ∈ l := by unfold newB; rw [insAll_memB]; simp
theorem new_len (l : List ByteArray) : (newB l).length ≤ l.length := by have := insAll_lenB l []; simpa [newB] using this
theorem hasB_mem' (l : List ByteArray) (x : ByteArray) : hasB l x = true ↔ x ∈ l := hasB_mem l x
/-- Where a text is in a row; -1: it isn't. -/
def idxB : List ByteArray → ByteArray → Nat
  | [], _ => 0
  | a :: r, s => if a = s then 0 else idxB r s + 1
def placeB (l : List ByteArray) (s : ByteArray) : Int := if hasB l s = true then (idxB l s : Int) else -1
theorem idxB_lt : ∀ (l : List ByteArray) (s : ByteArray), s ∈ l → idxB l s < l.length
  | [], _, h => by cases h
  | a :: r, s, h => by
    unfold idxB
    by_cases e : a = s
    · rw [if_pos e]; simp
    · rw [if_neg e, List.length_cons]
      have := idxB_lt r s ((List.mem_cons.1 h).resolve_left (fun h' => e h'.symm))
      omega
theorem idxB_get : ∀ (l : List ByteArray) (s : ByteArray) (h : s ∈ l), l[idxB l s]'(idxB_lt l s h) = s
  | [], _, h => by cases h
  | a :: r, s, h => by
    by_cases e : a = s
    · have h0 : idxB (a :: r) s = 0 := by show (if a = s then 0 else idxB r s + 1) = 0; rw [if_pos e]
      simp only [h0, List.getElem_cons_zero]; exact e
    · have h1 : idxB (a :: r) s = idxB r s + 1 := by show (if a = s then 0 else idxB r s + 1) = _; rw [if_neg e]
      simp only [h1, List.getElem_cons_succ]
      exact idxB_get r s ((List.mem_cons.1 h).resolve_left (fun h' => e h'.symm))
/-- The first place at which a text is. -/
theorem idxB_first : ∀ (l : List ByteArray) (s : ByteArray) (k : Nat) (hk : k < l.length), l[k] = s → (∀ j (hj : j < l.length), j < k → ¬ l[j] = s) → idxB l s = k
  | [], _, _, hk, _, _ => by simp at hk
  | a :: r, s, 0, _, h, _ => by
    have h' : a = s := h
    show (if a = s then 0 else idxB r s + 1) = 0
    rw [if_pos h']
  | a :: r, s, k + 1, hk, h, h' => by
    have h0 : ¬ a = s := h' 0 (by simp) (by omega)
    show (if a = s then 0 else idxB r s + 1) = k + 1
    rw [if_neg h0, idxB_first r s k (by simpa using hk) (by simpa using h) (fun j hj hjk e => h' (j + 1) (by simp; omega) (by omega) e)]
theorem place_first {l : List ByteArray} {s : ByteArray} {k : Nat} (hk : k < l.length) (h : l[k] = s) (h' : ∀ j (hj : j < l.length), j < k → ¬ l[j] = s) : placeB l s = k := by
  unfold placeB
  rw [if_pos ((hasB_mem l s).2 (h ▸ List.getElem_mem hk)), idxB_first l s k hk h h']
theorem place_no {l : List ByteArray} {s : ByteArray} (h : ∀ j (hj : j < l.length), ¬ l[j] = s) : placeB l s = -1 := by
  unfold placeB
  rw [if_neg]
  intro h1
  obtain ⟨j, hj, e⟩ := List.getElem_of_mem ((hasB_mem l s).1 h1)
  exact h j hj e
theorem place_range (l : List ByteArray) (s : ByteArray) : -1 ≤ placeB l s ∧ placeB l s < l.length := by
  unfold placeB
  by_cases h : hasB l s = true
  · rw [if_pos h]; have := idxB_lt l s ((hasB_mem l s).1 h); omega
  · rw [if_neg h]; omega
/-- In a row in order: where binary search ends. -/
theorem place_asc {l : List ByteArray} (hl : AscB l) {s : ByteArray} {k : Nat} (hk : k < l.length) (h : l[k] = s) : placeB l s = k :=
  place_first hk h (fun j hj hjk e => by
    have := List.pairwise_iff_getElem.1 hl j k hj hk hjk
    rw [e, h] at this
    exact lt_irrefl'B s this)
theorem place_gap {l : List ByteArray} (_ : AscB l) {s : ByteArray} {k : Nat} (h1 : ∀ j (hj : j < l.length), j < k → cmpS l[j] s < 0) (h2 : ∀ j (hj : j < l.length), k ≤ j → ¬ cmpS l[j] s < 0) (h3 : ∀ hk : k < l.length, ¬ l[k] = s) (hl : AscB l) : placeB l s = -1 :=
  place_no (fun j hj e => by
    by_cases hjk : j < k
    · have := h1 j hj hjk
      rw [e] at this
      exact lt_irrefl'B s this
    · have hk : k < l.length := by omega
      by_cases hjk2 : j = k
      · subst hjk2; exact h3 hk e
      · have := List.pairwise_iff_getElem.1 hl k j hk hj (by omega)
        rw [e] at this
        exact h2 k hk (Nat.le_refl _) this)
/-- A rule: its kind, and numbers. -/
structure Ru where
  k : Int
  h : Int
  who : Int
  a : Int
  b : Int
  via : Int
deriving DecidableEq
abbrev ruv (r : Ru) : Value := .agg #[.int .i64 r.k, .int .i64 r.h, .int .i64 r.who, .int .i64 r.a, .int .i64 r.b, .int .i64 r.via]
def noRu : Ru := ⟨0, 0, 0, 0, 0, 0⟩
/-- A role's number, of principals and names in order; -1: it has none. -/
def roleN (a b : List ByteArray) (r : Rl) : Int := if placeB a r.o < 0 ∨ placeB b r.n < 0 then -1 else placeB a r.o * b.length + placeB b r.n
def ruleR (a b : List ByteArray) (s : St) : Ru := ⟨s.k, roleN a b s.h, if s.k = 1 then placeB a s.who else 0, if s.k = 1 then 0 else roleN a b s.a, if s.k = 4 then roleN a b s.b else 0, if s.k = 3 then placeB b s.via else 0⟩
def ruleOk (r : Ru) : Bool := decide (0 ≤ r.h ∧ 0 ≤ r.who ∧ 0 ≤ r.a ∧ 0 ≤ r.b ∧ 0 ≤ r.via)
/-- A statement's rule, and whether it has one. -/
def ruleN (a b : List ByteArray) (s : St) : Ru × Bool := if rightS s = true ∧ ruleOk (ruleR a b s) = true then (ruleR a b s, true) else (noRu, false)
/-- The role of a number. -/
def roleAt (a b : List ByteArray) (i : Int) : Rl := if h : 0 ≤ i ∧ i.toNat < a.length * b.length then ⟨a[i.toNat / b.length]'(Nat.div_lt_of_lt_mul (by rw [Nat.mul_comm]; exact h.2)), b[i.toNat % b.length]'(Nat.mod_lt _ (Nat.pos_of_ne_zero (fun e => by have := h.2; rw [e] at this; omega)))⟩ else noR
theorem roleN_range (a b : List ByteArray) (r : Rl) : -1 ≤ roleN a b r ∧ roleN a b r < a.length * b.length ∨ roleN a b r = -1 := by
  unfold roleN
  by_cases h : placeB a r.o < 0 ∨ placeB b r.n < 0
  · rw [if_pos h]; exact .inr rfl
  · rw [if_neg h]
    have h1 := place_range a r.o
    have h2 := place_range b r.n
    refine .inl ⟨?_, ?_⟩
    · have : 0 ≤ placeB a r.o * (b.length : Int) := Int.mul_nonneg (by omega) (by omega)
      omega
    · obtain ⟨x, hx⟩ := Int.eq_ofNat_of_zero_le (show 0 ≤ placeB a r.o by omega)
      obtain ⟨y, hy⟩ := Int.eq_ofNat_of_zero_le (show 0 ≤ placeB b r.n by omega)
      have hxa : x < a.length := by have := h1.2; rw [hx] at this; exact_mod_cast this
      have hyb : y < b.length := by have := h2.2; rw [hy] at this; exact_mod_cast this
      rw [hx, hy]
      have : x * b.length + b.length ≤ a.length * b.length := by
        rw [← Nat.succ_mul]; exact Nat.mul_le_mul_right _ hxa
      exact_mod_cast (show x * b.length + y < a.length * b.length by omega)
end Go.Proofs.Ythickpocfplcoaa
