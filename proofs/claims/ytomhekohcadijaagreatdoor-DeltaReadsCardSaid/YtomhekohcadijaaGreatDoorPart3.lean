/- The reference of layer 3: what its small functions return, for every role and statement of texts that are not too long. Plain laws on blocks that a call made and that stand whole behind other calls. syn.Normal, Print, Roles and the reference's Normal, Print, SameRoles, for every statement of texts that are not too long. How statements stand: syn.Order, and the comparison that syn.Sort hands on. Plain laws: a comparison turned round. Plain laws of the order of statements: it is a total one, and two rows in strict order that hold the same are the same. syn.Roles, the reference's Normal, Print, SameRoles. The reference's order of statements, and rows of statements: Before, Has, Same. Rows of statements: the reference's Same and Has. Plain laws on worlds in which at most one block has been written. -/
import Derived.Test.YtomhekohcadijaaGreatDoorPart1
import Derived.Test.YtomhekohcadijaaGreatDoorPart2
import Derived.Deep.QuietTactic
import Derived.BigQuiet
import Derived.Deep.RegionWith
import Derived.Deep.RegionHeld3
namespace Go.Proofs.YtomhekohcadijaaGreatDoor
open Go.RowKit Go.Shelf

def eqS (a b : ByteArray) : Bool := decide (a = b)
theorem toList_emp {x : ByteArray} : x.toList = [] ↔ x = emp := by
  rw [show ([] : List UInt8) = emp.toList by rw [toList_bl]]; exact toList_inj
theorem isEmpty_eqS (x : ByteArray) : x.toList.isEmpty = eqS x emp := by
  rw [Bool.eq_iff_iff, List.isEmpty_iff, toList_emp]; simp [eqS]

set_option maxHeartbeats 400000 in
theorem ref3_IsRole (r : Rl) (w : World) (hs : r.le 4294967) :
    Calls Tryz.prog 60 #[rv r] w fun e w' => e = .returned (.bool (isRole r)) ∧ Below w.heap.size w w' := by
  obtain ⟨o, n⟩ := r
  obtain ⟨h1, h2⟩ := hs
  have H1 := Lib.hid (fun W => ref1_IsPrin o W (by dsimp only at h1; omega))
  have H2 := Lib.hid (fun W => ref1_IsName n W (by dsimp only at h2; omega))
  clear h1 h2
  have E := Lib.hid (show isRole ⟨o, n⟩ = (isP 65 90 (bl o) && isP 97 122 (bl n)) from rfl)
  cases hp : isP 65 90 (bl o)
  all_goals
    rw [hp] at E
    go_enter Tryz.func60, Tryz.ntmps60
    go_wp2_with (first | (go_at_call 110; refine (H1.out _).mono ?_; rintro e w' ⟨rfl, rfl⟩) | (go_at_call 111; refine (H2.out _).mono ?_; rintro e w' ⟨rfl, rfl⟩))
    go_ret
    exact ⟨ret_b (by rw [E.out]; rfl), (Below.refl _ _).alloc (Nat.le_refl _) _⟩

theorem lessR_def (a b c d : ByteArray) : lessR ⟨a, b⟩ ⟨c, d⟩ = if a = c then Op.bytesLess b.toList d.toList else Op.bytesLess a.toList c.toList := by
  unfold lessR cmpR orI
  dsimp only
  rw [toList_bl, toList_bl, toList_bl, toList_bl, cmp_less, cmp_less]
  by_cases h : a = c
  · rw [if_pos h, if_pos ((cmpS_zero a c).2 h)]; rfl
  · rw [if_neg h, if_neg (fun e => h ((cmpS_zero a c).1 e))]; rfl
set_option maxHeartbeats 400000 in
theorem ref3_Less (x y : Rl) (w : World) : Calls Tryz.prog 58 #[rv x, rv y] w fun e w' => e = .returned (.bool (lessR x y)) ∧ Below w.heap.size w w' := by
  obtain ⟨a, b⟩ := x
  obtain ⟨c, d⟩ := y
  have E := Lib.hid (lessR_def a b c d)
  by_cases h : a = c
  · have hb : (a.toList == c.toList) = true := by rw [beq_str]; simp [h]
    have H := Lib.hid h
    clear h
    go_enter Tryz.func58, Tryz.ntmps58
    go_wp2
    go_ret
    exact ⟨ret_b (by rw [E.out, if_pos H.out]), ((Below.refl _ _).alloc (Nat.le_refl _) _).alloc (by simp) _⟩
  · have hb : (a.toList == c.toList) = false := by rw [beq_str]; simp [h]
    have H := Lib.hid h
    clear h
    go_enter Tryz.func58, Tryz.ntmps58
    go_wp2
    go_ret
    exact ⟨ret_b (by rw [E.out, if_neg H.out]), ((Below.refl _ _).alloc (Nat.le_refl _) _).alloc (by simp) _⟩
theorem ref3_Role (r : Rl) (w : World) (hs : r.le 4294967) : Calls Tryz.prog 54 #[rv r] w fun e w' => e = .returned (.string (roleT r)) ∧ Below w.heap.size w w' := by
  obtain ⟨o, n⟩ := r
  obtain ⟨h1, h2⟩ := hs
  dsimp only at h1 h2
  go_enter Tryz.func54, Tryz.ntmps54
  go_wp2
  go_ret
  exact ⟨rfl, (Below.refl _ _).alloc (Nat.le_refl _) _⟩

theorem rightR1 (h : Rl) (who : ByteArray) (a b : Rl) (via : ByteArray) : rightS ⟨1, h, who, a, b, via⟩ = (isRole h && (isP 65 90 (bl who) && eqRl a noR && eqRl b noR && eqS via emp)) := by
  simp [rightS, eqS]
theorem rightR2 (h : Rl) (who : ByteArray) (a b : Rl) (via : ByteArray) : rightS ⟨2, h, who, a, b, via⟩ = (isRole h && (eqS who emp && isRole a && (eqRl b noR && eqS via emp))) := by
  simp [rightS, eqS, Bool.and_assoc]
theorem rightR3 (h : Rl) (who : ByteArray) (a b : Rl) (via : ByteArray) : rightS ⟨3, h, who, a, b, via⟩ = (isRole h && (eqS who emp && isRole a && (eqRl b noR && isP 97 122 (bl via)))) := by
  simp [rightS, eqS, Bool.and_assoc]
theorem rightR4 (h : Rl) (who : ByteArray) (a b : Rl) (via : ByteArray) : rightS ⟨4, h, who, a, b, via⟩ = (isRole h && (eqS who emp && isRole a && (isRole b && eqS via emp && !lessR b a))) := by
  simp [rightS, eqS, Bool.and_assoc]

set_option maxRecDepth 100000 in
set_option maxHeartbeats 4000000 in
theorem ref3_Right (s : St) (w : World) (hs : s.le 4294967) :
    Calls Tryz.prog 59 #[sv s] w fun e w' => e = .returned (.bool (rightS s)) ∧ Below w.heap.size w w' := by
  have hle := Lib.hid hs
  clear hs
  have hEq := role_eql
  obtain ⟨k, ⟨h1, h2⟩, who, ⟨a1, a2⟩, ⟨b1, b2⟩, via⟩ := s
  by_cases k1 : k = 1
  · subst k1
    have R := Lib.hid (rightR1 ⟨h1, h2⟩ who ⟨a1, a2⟩ ⟨b1, b2⟩ via)
    go_enter Tryz.func59, Tryz.ntmps59
    go_wp2_with (first | (go_at_call 60; refine (ref3_IsRole ⟨_, _⟩ _ ?_).mono ?_; (first | exact hle.out.1 | exact hle.out.2.2.1 | exact hle.out.2.2.2.1); rintro e w1 ⟨rfl, hb⟩; obtain ⟨hc1, hf1⟩ := bcell hb; have hz1 := hb.size; (try simp at hz1); have hz2 : w.heap.size < w1.heap.size := (by omega); have hz3 : w.heap.size + 1 < w1.heap.size := (by omega)) | (go_at_call 110; refine (ref1_IsPrin who _ ?_).mono ?_; (have := hle.out.2.1; dsimp only at this; omega); rintro e w' ⟨rfl, rfl⟩))
    all_goals
      go_ret
      refine ⟨ret_b ?_, ?_⟩
      · go_tidy
        rw [R.out]
        clear hle R
        simp_all [noR, isEmpty_eqS, eqS]
      · (repeat' (first | exact Below.refl _ _ | (refine Below.trans ?_ (Below.mono (by assumption) ?_)) | (refine Below.alloc ?_ ?_ _) | (refine below_drew ?_) | (refine below_drewN ?_ _) | (refine Below.setCell ?_ ?_ _) | omega | (simp; done) | (simp; omega)))
  · by_cases k2 : k = 2
    · subst k2
      have R := Lib.hid (rightR2 ⟨h1, h2⟩ who ⟨a1, a2⟩ ⟨b1, b2⟩ via)
      go_enter Tryz.func59, Tryz.ntmps59
      go_wp2_with (first | (go_at_call 60; refine (ref3_IsRole ⟨_, _⟩ _ ?_).mono ?_; (first | exact hle.out.1 | exact hle.out.2.2.1 | exact hle.out.2.2.2.1); rintro e w1 ⟨rfl, hb⟩; obtain ⟨hc1, hf1⟩ := bcell hb; have hz1 := hb.size; (try simp at hz1); have hz2 : w.heap.size < w1.heap.size := (by omega); have hz3 : w.heap.size + 1 < w1.heap.size := (by omega)))
      all_goals
        go_ret
        refine ⟨ret_b ?_, ?_⟩
        · go_tidy
          rw [R.out]
          clear hle R
          simp_all [noR, isEmpty_eqS, toList_emp, eqS]
        · (repeat' (first | exact Below.refl _ _ | (refine Below.trans ?_ (Below.mono (by assumption) ?_)) | (refine Below.alloc ?_ ?_ _) | (refine below_drew ?_) | (refine below_drewN ?_ _) | (refine Below.setCell ?_ ?_ _) | omega | (simp; done) | (simp; omega)))
    · by_cases k3 : k = 3
      · subst k3
        have R := Lib.hid (rightR3 ⟨h1, h2⟩ who ⟨a1, a2⟩ ⟨b1, b2⟩ via)
        go_enter Tryz.func59, Tryz.ntmps59
        go_wp2_with (first | (go_at_call 60; refine (ref3_IsRole ⟨_, _⟩ _ ?_).mono ?_; (first | exact hle.out.1 | exact hle.out.2.2.1 | exact hle.out.2.2.2.1); rintro e w1 ⟨rfl, hb⟩; obtain ⟨hc1, hf1⟩ := bcell hb; have hz1 := hb.size; (try simp at hz1); have hz2 : w.heap.size < w1.heap.size := (by omega); have hz3 : w.heap.size + 1 < w1.heap.size := (by omega)) | (go_at_call 111; refine (ref1_IsName via _ ?_).mono ?_; (have := hle.out.2.2.2.2; dsimp only at this; omega); rintro e w' ⟨rfl, rfl⟩))
        all_goals
          go_ret
          refine ⟨ret_b ?_, ?_⟩
          · go_tidy
            rw [R.out]
            clear hle R
            simp_all [noR, toList_emp, eqS]
          · (repeat' (first | exact Below.refl _ _ | (refine Below.trans ?_ (Below.mono (by assumption) ?_)) | (refine Below.alloc ?_ ?_ _) | (refine below_drew ?_) | (refine below_drewN ?_ _) | (refine Below.setCell ?_ ?_ _) | omega | (simp; done) | (simp; omega)))
      · by_cases k4 : k = 4
        · subst k4
          have R := Lib.hid (rightR4 ⟨h1, h2⟩ who ⟨a1, a2⟩ ⟨b1, b2⟩ via)
          go_enter Tryz.func59, Tryz.ntmps59
          go_wp2_with (first | (go_at_call 60; refine (ref3_IsRole ⟨_, _⟩ _ ?_).mono ?_; (first | exact hle.out.1 | exact hle.out.2.2.1 | exact hle.out.2.2.2.1); rintro e w1 ⟨rfl, hb⟩; obtain ⟨hc1, hf1⟩ := bcell hb; have hz1 := hb.size; (try simp at hz1); have hz2 : w.heap.size < w1.heap.size := (by omega); have hz3 : w.heap.size + 1 < w1.heap.size := (by omega)) | (go_at_call 58; refine (ref3_Less ⟨b1, b2⟩ ⟨a1, a2⟩ _).mono ?_; rintro e w1 ⟨rfl, hb⟩; obtain ⟨hc1, hf1⟩ := bcell hb; have hz1 := hb.size; (try simp at hz1); have hz2 : w.heap.size < w1.heap.size := (by omega); have hz3 : w.heap.size + 1 < w1.heap.size := (by omega)))
          all_goals
            go_ret
            refine ⟨ret_b ?_, ?_⟩
            · go_tidy
              rw [R.out]
              clear hle R
              simp_all [toList_emp, eqS]
            · (repeat' (first | exact Below.refl _ _ | (refine Below.trans ?_ (Below.mono (by assumption) ?_)) | (refine Below.alloc ?_ ?_ _) | (refine below_drew ?_) | (refine below_drewN ?_ _) | (refine Below.setCell ?_ ?_ _) | omega | (simp; done) | (simp; omega)))
        · have R := Lib.hid (rightS0 k ⟨h1, h2⟩ who ⟨a1, a2⟩ ⟨b1, b2⟩ via k1 k2 k3 k4)
          have q1 : (k == 1) = false := by rw [beq_eq_false_iff_ne]; exact k1
          have q2 : (k == 2) = false := by rw [beq_eq_false_iff_ne]; exact k2
          have q3 : (k == 3) = false := by rw [beq_eq_false_iff_ne]; exact k3
          have q4 : k < 1 ∨ 4 < k := by omega
          clear k1 k2 k3 k4
          rcases q4 with q4 | q4
          · have d1 : decide (k < 1) = true := by simp; omega
            go_enter Tryz.func59, Tryz.ntmps59
            go_wp2_with (go_at_call 60; refine (ref3_IsRole ⟨_, _⟩ _ ?_).mono ?_; (first | exact hle.out.1 | exact hle.out.2.2.1 | exact hle.out.2.2.2.1); rintro e w1 ⟨rfl, hb⟩; obtain ⟨hc1, hf1⟩ := bcell hb; have hz1 := hb.size; (try simp at hz1); have hz2 : w.heap.size < w1.heap.size := (by omega); have hz3 : w.heap.size + 1 < w1.heap.size := (by omega))
            all_goals
              go_ret
              refine ⟨ret_b ?_, ?_⟩
              · rw [R.out]
              · (repeat' (first | exact Below.refl _ _ | (refine Below.trans ?_ (Below.mono (by assumption) ?_)) | (refine Below.alloc ?_ ?_ _) | (refine below_drew ?_) | (refine below_drewN ?_ _) | (refine Below.setCell ?_ ?_ _) | omega | (simp; done) | (simp; omega)))
          · have d1 : decide (k < 1) = false := by simp; omega
            have d2 : decide (4 < k) = true := by simp; omega
            go_enter Tryz.func59, Tryz.ntmps59
            go_wp2_with (go_at_call 60; refine (ref3_IsRole ⟨_, _⟩ _ ?_).mono ?_; (first | exact hle.out.1 | exact hle.out.2.2.1 | exact hle.out.2.2.2.1); rintro e w1 ⟨rfl, hb⟩; obtain ⟨hc1, hf1⟩ := bcell hb; have hz1 := hb.size; (try simp at hz1); have hz2 : w.heap.size < w1.heap.size := (by omega); have hz3 : w.heap.size + 1 < w1.heap.size := (by omega))
            all_goals
              go_ret
              refine ⟨ret_b ?_, ?_⟩
              · rw [R.out]
              · (repeat' (first | exact Below.refl _ _ | (refine Below.trans ?_ (Below.mono (by assumption) ?_)) | (refine Below.alloc ?_ ?_ _) | (refine below_drew ?_) | (refine below_drewN ?_ _) | (refine Below.setCell ?_ ?_ _) | omega | (simp; done) | (simp; omega)))
end Go.Proofs.YtomhekohcadijaaGreatDoor
namespace Go.Proofs.YtomhekohcadijaaGreatDoor
open Go.RowKit Go.Shelf

def Blk (w : World) (g : Nat) (cs : Array Value) : Prop := (∀ o, w.cell? ⟨g, o, none⟩ = cs[o]?) ∧ (∀ o, w.frozen? ⟨g, o, none⟩ = false) ∧ g < w.heap.size
theorem blk_of {w : World} {g : Nat} {cs : Array Value} {t : TypeId} (h : w.heap[g]? = some (.cells cs t (0, 0))) : Blk w g cs :=
  ⟨fun o => cell_of_row w g o cs t (0, 0) h, fun o => by simp [World.frozen?, h], (Array.getElem?_eq_some_iff.1 h).1⟩
theorem Blk.below {w w' : World} {g : Nat} {cs : Array Value} (h : Blk w g cs) (hb : Below w.heap.size w w') : Blk w' g cs :=
  ⟨fun o => (hb.cell (p := ⟨g, o, none⟩) h.2.2).trans (h.1 o), fun o => (hb.frozen (p := ⟨g, o, none⟩) h.2.2).trans (h.2.1 o), Nat.lt_of_lt_of_le h.2.2 hb.size⟩
theorem Blk.alloc {w : World} {g : Nat} {cs : Array Value} (h : Blk w g cs) (o : Obj) : Blk (w.alloc o) g cs := h.below ((Below.refl _ _).alloc (Nat.le_refl _) o)
theorem Blk.new (w : World) (cs : Array Value) (t : TypeId) : Blk (w.alloc (.cells cs t)) w.heap.size cs := blk_of (heap_new1 _ _)
theorem keep1 {w w' : World} {c1 : Array Value} {t1 : TypeId} (hb : Below (w.alloc (.cells c1 t1)).heap.size (w.alloc (.cells c1 t1)) w') : Blk w' w.heap.size c1 :=
  (Blk.new w c1 t1).below hb
theorem keep2 {w w' : World} {c1 c2 : Array Value} {t1 t2 : TypeId} (hb : Below ((w.alloc (.cells c1 t1)).alloc (.cells c2 t2)).heap.size ((w.alloc (.cells c1 t1)).alloc (.cells c2 t2)) w') :
    Blk w' w.heap.size c1 ∧ Blk w' (w.heap.size + 1) c2 :=
  ⟨((Blk.new w c1 t1).alloc _).below hb, by have := (Blk.new (w.alloc (.cells c1 t1)) c2 t2).below hb; simpa using this⟩

structure Nr (w : World) where
  x : World
  h : Below w.heap.size w x
instance (w : World) : Inhabited (Nr w) := ⟨⟨w, Below.refl _ _⟩⟩
theorem region_near {P : Program} {id : Nat} {Q : Exit → Act → World → Prop} {a : Act} {w : World} {l : List Oper} (hm : P.follows .mixedOrders = true) (hB : Region.lexB .any l.toArray = true)
    (h : wpQuiet P l.toArray (fun w' => ∃ p : Nr w, w' = p.x) (fun a' => ∀ w', (∃ p : Nr w, w' = p.x) → Q .normal a' w') l a) : (Code.region id l.toArray true).wp P Q a w :=
  wp_region_quiet (C := fun w' => ∃ p : Nr w, w' = p.x) hm hB ⟨⟨w.drew, below_drew (Below.refl _ _)⟩, rfl⟩ (by simpa using h)
theorem Calls.near {P : Program} {f : FuncId} {args : Array Value} {w : World} {p : Nr w} {v : Value}
    (h : Calls P f args p.x fun e w' => e = .returned v ∧ Below p.x.heap.size p.x w') : Calls P f args p.x fun e w'' => e = .returned v ∧ ∃ q : Nr w, w'' = q.x :=
  h.mono fun _ w' ⟨he, hb⟩ => ⟨he, ⟨w', p.h.trans (hb.mono p.h.size)⟩, rfl⟩
theorem Blk.near {w : World} {g : Nat} {cs : Array Value} (h : Blk w g cs) : ∀ (p : Nr w) (o : Nat), p.x.cell? ⟨g, o, none⟩ = cs[o]? := fun p o => (h.below p.h).1 o
end Go.Proofs.YtomhekohcadijaaGreatDoor
namespace Go.Proofs.YtomhekohcadijaaGreatDoor
open Go.RowKit Go.Shelf

theorem normal_no (k : Int) (h : Rl) (who : ByteArray) (a b : Rl) (via : ByteArray) (h4 : ¬ k = 4) : normalS ⟨k, h, who, a, b, via⟩ = ⟨k, h, who, a, b, via⟩ := by
  unfold normalS; rw [if_neg (fun x => h4 x.1)]
theorem normal_same (h : Rl) (who : ByteArray) (a b : Rl) (via : ByteArray) (hl : lessR b a = false) : normalS ⟨4, h, who, a, b, via⟩ = ⟨4, h, who, a, b, via⟩ := by
  unfold normalS; rw [if_neg (fun x => by rw [hl] at x; cases x.2)]
theorem normal_swap (h : Rl) (who : ByteArray) (a b : Rl) (via : ByteArray) (hl : lessR b a = true) : normalS ⟨4, h, who, a, b, via⟩ = ⟨4, h, who, b, a, via⟩ := by
  unfold normalS; rw [if_pos ⟨rfl, hl⟩]

set_option maxRecDepth 100000 in
set_option maxHeartbeats 4000000 in
theorem syn_Normal (s : St) (w : World) :
    Calls Tryz.prog 159 #[sv s] w fun e w' => e = .returned (sv (normalS s)) ∧ Below w.heap.size w w' := by
  obtain ⟨k, ⟨h1, h2⟩, who, ⟨a1, a2⟩, ⟨b1, b2⟩, via⟩ := s
  by_cases k4 : k = 4
  · subst k4
    cases hl : lessR ⟨b1, b2⟩ ⟨a1, a2⟩ with
    | true =>
      have R := Lib.hid (normal_swap ⟨h1, h2⟩ who ⟨a1, a2⟩ ⟨b1, b2⟩ via hl)
      have HL := Lib.hid hl
      clear hl
      go_enter Tryz.func159, Tryz.ntmps159
      go_wp2_with (go_at_call 109; refine (syn_Less ⟨b1, b2⟩ ⟨a1, a2⟩ _).mono ?_; rw [HL.out]; rintro e w1 ⟨rfl, hb⟩; obtain ⟨⟨ca, fa, za⟩, ⟨cb, fb, zb⟩⟩ := keep2 hb)
      refine bodyPost_ret (v := sv ⟨4, ⟨h1, h2⟩, who, ⟨b1, b2⟩, ⟨a1, a2⟩, via⟩) (by simp [results, Tryz.results159, go_sem, cb]) rfl ⟨by rw [R.out], ?_⟩
      (repeat' (first | with_reducible exact Below.refl _ _ | with_reducible (refine Below.setCell ?_ ?_ _) | with_reducible (refine Below.alloc ?_ ?_ _) | with_reducible (refine below_drew ?_) | with_reducible (refine below_drewN ?_ _) | with_reducible (refine Below.trans ?_ (Below.mono (by assumption) ?_)) | omega | (simp; done) | (simp; omega)))
    | false =>
      have R := Lib.hid (normal_same ⟨h1, h2⟩ who ⟨a1, a2⟩ ⟨b1, b2⟩ via hl)
      have HL := Lib.hid hl
      clear hl
      go_enter Tryz.func159, Tryz.ntmps159
      go_wp2_with (go_at_call 109; refine (syn_Less ⟨b1, b2⟩ ⟨a1, a2⟩ _).mono ?_; rw [HL.out]; rintro e w1 ⟨rfl, hb⟩; obtain ⟨⟨ca, fa, za⟩, ⟨cb, fb, zb⟩⟩ := keep2 hb)
      refine bodyPost_ret (v := sv ⟨4, ⟨h1, h2⟩, who, ⟨a1, a2⟩, ⟨b1, b2⟩, via⟩) (by simp [results, Tryz.results159, go_sem, cb]) rfl ⟨by rw [R.out], ?_⟩
      (repeat' (first | with_reducible exact Below.refl _ _ | with_reducible (refine Below.setCell ?_ ?_ _) | with_reducible (refine Below.alloc ?_ ?_ _) | with_reducible (refine below_drew ?_) | with_reducible (refine below_drewN ?_ _) | with_reducible (refine Below.trans ?_ (Below.mono (by assumption) ?_)) | omega | (simp; done) | (simp; omega)))
  · have R := Lib.hid (normal_no k ⟨h1, h2⟩ who ⟨a1, a2⟩ ⟨b1, b2⟩ via k4)
    have q4 : (k == 4) = false := by rw [beq_eq_false_iff_ne]; exact k4
    clear k4
    go_enter Tryz.func159, Tryz.ntmps159
    go_wp2
    refine bodyPost_ret (v := sv ⟨k, ⟨h1, h2⟩, who, ⟨a1, a2⟩, ⟨b1, b2⟩, via⟩) (by simp [results, Tryz.results159, go_sem]) rfl ⟨by rw [R.out], ?_⟩
    (repeat' (first | with_reducible exact Below.refl _ _ | with_reducible (refine Below.setCell ?_ ?_ _) | with_reducible (refine Below.alloc ?_ ?_ _) | with_reducible (refine below_drew ?_) | with_reducible (refine below_drewN ?_ _) | with_reducible (refine Below.trans ?_ (Below.mono (by assumption) ?_)) | omega | (simp; done) | (simp; omega)))

theorem printS_no (s : St) (h : rightS s = false) : printS s = emp := by unfold printS; rw [h]; rfl
theorem printS1 (h : Rl) (who : ByteArray) (a b : Rl) (via : ByteArray) (hr : rightS ⟨1, h, who, a, b, via⟩ = true) : printS ⟨1, h, who, a, b, via⟩ = roleT h ++ ⟨#[32, 60, 45, 32]⟩ ++ who := by unfold printS; rw [hr]; rfl
theorem printS2 (h : Rl) (who : ByteArray) (a b : Rl) (via : ByteArray) (hr : rightS ⟨2, h, who, a, b, via⟩ = true) : printS ⟨2, h, who, a, b, via⟩ = roleT h ++ ⟨#[32, 60, 45, 32]⟩ ++ roleT a := by unfold printS; rw [hr]; rfl
theorem printS3 (h : Rl) (who : ByteArray) (a b : Rl) (via : ByteArray) (hr : rightS ⟨3, h, who, a, b, via⟩ = true) : printS ⟨3, h, who, a, b, via⟩ = roleT h ++ ⟨#[32, 60, 45, 32]⟩ ++ (roleT a ++ ⟨#[46]⟩ ++ via) := by unfold printS; rw [hr]; rfl
theorem printS4 (h : Rl) (who : ByteArray) (a b : Rl) (via : ByteArray) (hr : rightS ⟨4, h, who, a, b, via⟩ = true) : printS ⟨4, h, who, a, b, via⟩ = roleT h ++ ⟨#[32, 60, 45, 32]⟩ ++ (roleT a ++ ⟨#[32, 38, 32]⟩ ++ roleT b) := by unfold printS; rw [hr]; rfl
theorem roleT_size (r : Rl) : (roleT r).size = r.o.size + 1 + r.n.size := by simp [roleT, ByteArray.size_append]; rfl
theorem roleT_le (r : Rl) (h : r.le 4294967) : (roleT r).size ≤ 8600000 := by rw [roleT_size]; have := h.1; have := h.2; omega
theorem app_assoc (a b c : ByteArray) : a ++ b ++ c = a ++ (b ++ c) := by
  obtain ⟨⟨x⟩⟩ := a; obtain ⟨⟨y⟩⟩ := b; obtain ⟨⟨z⟩⟩ := c
  apply bl_inj.1
  rw [bl_append, bl_append, bl_append, bl_append, List.append_assoc]

set_option maxRecDepth 100000 in
set_option maxHeartbeats 4000000 in
theorem syn_Print (s : St) (w : World) (hs : s.le 4294967) :
    Calls Tryz.prog 82 #[sv s] w fun e w' => e = .returned (.string (printS s)) ∧ Below w.heap.size w w' := by
  have hle := Lib.hid hs
  clear hs
  cases hr : rightS s with
  | false =>
    have R := Lib.hid (printS_no s hr)
    have HR := Lib.hid hr
    obtain ⟨k, ⟨h1, h2⟩, who, ⟨a1, a2⟩, ⟨b1, b2⟩, via⟩ := s
    clear hr
    go_enter Tryz.func82, Tryz.ntmps82
    go_wp2_with (go_at_call 114; refine (syn_Right ⟨k, ⟨h1, h2⟩, who, ⟨a1, a2⟩, ⟨b1, b2⟩, via⟩ _ hle.out).mono ?_; rw [HR.out]; rintro e w1 ⟨rfl, hb⟩)
    go_ret
    refine ⟨ret_s (by rw [R.out]), ((Below.refl _ _).alloc (Nat.le_refl _) _).trans (hb.mono (by simp))⟩
  | true =>
    obtain ⟨k, ⟨h1, h2⟩, who, ⟨a1, a2⟩, ⟨b1, b2⟩, via⟩ := s
    have hTh := roleT_le ⟨h1, h2⟩ hle.out.1
    have hTa := roleT_le ⟨a1, a2⟩ hle.out.2.2.1
    have hTb := roleT_le ⟨b1, b2⟩ hle.out.2.2.2.1
    have hwho : who.size ≤ 4294967 := hle.out.2.1
    have hvia : via.size ≤ 4294967 := hle.out.2.2.2.2
    by_cases k3 : k = 3
    · subst k3
      have R := Lib.hid (printS3 ⟨h1, h2⟩ who ⟨a1, a2⟩ ⟨b1, b2⟩ via hr)
      have HR := Lib.hid hr
      clear hr
      go_enter Tryz.func82, Tryz.ntmps82
      go_wp2_with (first | (go_at_call 114; refine (syn_Right ⟨3, ⟨h1, h2⟩, who, ⟨a1, a2⟩, ⟨b1, b2⟩, via⟩ _ hle.out).mono ?_; rw [HR.out]; rintro e w1 ⟨rfl, hb⟩; obtain ⟨ca, fa, za⟩ := keep1 hb) | (go_at_call_of 103 (Value.agg #[.string h1, .string h2]); refine (syn_PrintRole ⟨h1, h2⟩ _ hle.out.1).mono ?_; rintro e w2 ⟨rfl, hb2⟩; obtain ⟨ca2, fa2, za2⟩ := Blk.below ⟨ca, fa, za⟩ hb2))
      have hnr := Blk.near ⟨ca2, fa2, za2⟩
      refine region_near (by kernel_rfl) (by kernel_rfl) ?_
      repeat (go_big_quiet_step ((first | (go_at_call_of 103 (Value.agg #[.string a1, .string a2]); exact Calls.near (syn_PrintRole ⟨a1, a2⟩ _ hle.out.2.2.1)) | (go_at_call_of 103 (Value.agg #[.string b1, .string b2]); exact Calls.near (syn_PrintRole ⟨b1, b2⟩ _ hle.out.2.2.2.1)))))
      refine wpQuiet_nil ?_
      rintro w3 ⟨⟨w3, hb3⟩, rfl⟩
      go_wp2
      go_ret
      refine ⟨ret_s (by rw [R.out]; simp only [app_assoc]), ?_⟩
      (repeat' (first | with_reducible exact Below.refl _ _ | with_reducible (refine Below.setCell ?_ ?_ _) | with_reducible (refine Below.alloc ?_ ?_ _) | with_reducible (refine below_drew ?_) | with_reducible (refine below_drewN ?_ _) | with_reducible (refine Below.trans ?_ (Below.mono (by assumption) ?_)) | omega | (simp; done) | (simp; omega)))
    by_cases k4 : k = 4
    · subst k4
      have R := Lib.hid (printS4 ⟨h1, h2⟩ who ⟨a1, a2⟩ ⟨b1, b2⟩ via hr)
      have HR := Lib.hid hr
      clear hr
      go_enter Tryz.func82, Tryz.ntmps82
      go_wp2_with (first | (go_at_call 114; refine (syn_Right ⟨4, ⟨h1, h2⟩, who, ⟨a1, a2⟩, ⟨b1, b2⟩, via⟩ _ hle.out).mono ?_; rw [HR.out]; rintro e w1 ⟨rfl, hb⟩; obtain ⟨ca, fa, za⟩ := keep1 hb) | (go_at_call_of 103 (Value.agg #[.string h1, .string h2]); refine (syn_PrintRole ⟨h1, h2⟩ _ hle.out.1).mono ?_; rintro e w2 ⟨rfl, hb2⟩; obtain ⟨ca2, fa2, za2⟩ := Blk.below ⟨ca, fa, za⟩ hb2))
      have hnr := Blk.near ⟨ca2, fa2, za2⟩
      refine region_near (by kernel_rfl) (by kernel_rfl) ?_
      repeat (go_big_quiet_step ((first | (go_at_call_of 103 (Value.agg #[.string a1, .string a2]); exact Calls.near (syn_PrintRole ⟨a1, a2⟩ _ hle.out.2.2.1)) | (go_at_call_of 103 (Value.agg #[.string b1, .string b2]); exact Calls.near (syn_PrintRole ⟨b1, b2⟩ _ hle.out.2.2.2.1)))))
      refine wpQuiet_nil ?_
      rintro w3 ⟨⟨w3, hb3⟩, rfl⟩
      go_wp2
      go_ret
      refine ⟨ret_s (by rw [R.out]; simp only [app_assoc]), ?_⟩
      (repeat' (first | with_reducible exact Below.refl _ _ | with_reducible (refine Below.setCell ?_ ?_ _) | with_reducible (refine Below.alloc ?_ ?_ _) | with_reducible (refine below_drew ?_) | with_reducible (refine below_drewN ?_ _) | with_reducible (refine Below.trans ?_ (Below.mono (by assumption) ?_)) | omega | (simp; done) | (simp; omega)))
    by_cases k2 : k = 2
    · subst k2
      have R := Lib.hid (printS2 ⟨h1, h2⟩ who ⟨a1, a2⟩ ⟨b1, b2⟩ via hr)
      have HR := Lib.hid hr
      clear hr
      go_enter Tryz.func82, Tryz.ntmps82
      go_wp2_with (first | (go_at_call 114; refine (syn_Right ⟨2, ⟨h1, h2⟩, who, ⟨a1, a2⟩, ⟨b1, b2⟩, via⟩ _ hle.out).mono ?_; rw [HR.out]; rintro e w1 ⟨rfl, hb⟩; obtain ⟨ca, fa, za⟩ := keep1 hb) | (go_at_call_of 103 (Value.agg #[.string h1, .string h2]); refine (syn_PrintRole ⟨h1, h2⟩ _ hle.out.1).mono ?_; rintro e w2 ⟨rfl, hb2⟩; obtain ⟨ca2, fa2, za2⟩ := Blk.below ⟨ca, fa, za⟩ hb2) | (go_at_call_of 103 (Value.agg #[.string a1, .string a2]); refine (syn_PrintRole ⟨a1, a2⟩ _ hle.out.2.2.1).mono ?_; rintro e w3 ⟨rfl, hb3⟩))
      go_ret
      refine ⟨ret_s (by rw [R.out]), ?_⟩
      (repeat' (first | with_reducible exact Below.refl _ _ | with_reducible (refine Below.setCell ?_ ?_ _) | with_reducible (refine Below.alloc ?_ ?_ _) | with_reducible (refine below_drew ?_) | with_reducible (refine below_drewN ?_ _) | with_reducible (refine Below.trans ?_ (Below.mono (by assumption) ?_)) | omega | (simp; done) | (simp; omega)))
    by_cases k1 : k = 1
    · subst k1
      have R := Lib.hid (printS1 ⟨h1, h2⟩ who ⟨a1, a2⟩ ⟨b1, b2⟩ via hr)
      have HR := Lib.hid hr
      clear hr
      go_enter Tryz.func82, Tryz.ntmps82
      go_wp2_with (first | (go_at_call 114; refine (syn_Right ⟨1, ⟨h1, h2⟩, who, ⟨a1, a2⟩, ⟨b1, b2⟩, via⟩ _ hle.out).mono ?_; rw [HR.out]; rintro e w1 ⟨rfl, hb⟩; obtain ⟨ca, fa, za⟩ := keep1 hb) | (go_at_call_of 103 (Value.agg #[.string h1, .string h2]); refine (syn_PrintRole ⟨h1, h2⟩ _ hle.out.1).mono ?_; rintro e w2 ⟨rfl, hb2⟩; obtain ⟨ca2, fa2, za2⟩ := Blk.below ⟨ca, fa, za⟩ hb2))
      go_ret
      refine ⟨ret_s (by rw [R.out]), ?_⟩
      (repeat' (first | with_reducible exact Below.refl _ _ | with_reducible (refine Below.setCell ?_ ?_ _) | with_reducible (refine Below.alloc ?_ ?_ _) | with_reducible (refine below_drew ?_) | with_reducible (refine below_drewN ?_ _) | with_reducible (refine Below.trans ?_ (Below.mono (by assumption) ?_)) | omega | (simp; done) | (simp; omega)))
    rw [rightS0 k _ _ _ _ _ k1 k2 k3 k4] at hr
    cases hr
end Go.Proofs.YtomhekohcadijaaGreatDoor
namespace Go.Proofs.YtomhekohcadijaaGreatDoor
open Go.RowKit Go.Shelf

def orL : List Int → Int
  | [] => 0
  | x :: r => if x = 0 then orL r else x
theorem orL_yes {x : Int} {r : List Int} (h : x = 0) : orL (x :: r) = orL r := if_pos h
theorem orL_no {x : Int} {r : List Int} (h : ¬ x = 0) : orL (x :: r) = x := if_neg h
def cmpI (x y : Int) : Int := if x < y then -1 else if y < x then 1 else 0
def cmpSt (s t : St) : Int := orL [cmpR s.h t.h, cmpI s.k t.k, cmpS s.who t.who, cmpR s.a t.a, cmpR s.b t.b, cmpS s.via t.via]

theorem orL_at {l : List Int} {k : Nat} (h : k < l.length) : l.drop k = l[k] :: l.drop (k + 1) := List.drop_eq_getElem_cons h
theorem orL_end {l : List Int} {k : Nat} (h : ¬ k < l.length) : orL (l.drop k) = 0 := by
  rw [List.drop_eq_nil_of_le (by omega)]; rfl
set_option maxRecDepth 100000 in
set_option maxHeartbeats 1000000 in
theorem cmp_OrL (b n : Nat) (l : List Int) (w : World) (hn : n = l.length) (hm : n ≤ 1000) (h : ∀ i (hi : i < l.length), w.cell? ⟨b, i, none⟩ = some (.int .i64 l[i])) :
    Calls Tryz.prog 160 #[.slice (some ⟨b, 0, none⟩) n n] w fun e w' => e = .returned (.int .i64 (orL l)) ∧ w = w' := by
  have HH := Lib.hid h
  have HN := Lib.hid hn
  clear h hn
  go_enter Tryz.func160, Tryz.ntmps160
  go_wp2
  go_loop [8] (fun i => ∃ k : Nat, k ≤ n ∧ i = .int .i64 k ∧ Hid (orL l = orL (l.drop k))) (fun i => n - (intOf i).toNat)
  case atStart => exact ⟨0, by omega, rfl, Lib.hid (by simp)⟩
  case round =>
    obtain ⟨k, hk, rfl, HX⟩ := hrel
    by_cases hlt : k < n
    · have hl : k < l.length := by have := HN.out; omega
      have p := HH.out k hl
      have HD := Lib.hid (HX.out.trans (congrArg orL (orL_at hl)))
      have d : decide ((k : Int) < (n : Int)) = true := by (rw [decide_eq_true_iff]; omega)
      by_cases hz : l[k] = 0
      · have b1 : (l[k] != 0) = false := by simp [hz]
        have HE := Lib.hid (HD.out.trans (orL_yes hz))
        clear hz
        go_wp2
        exact ⟨⟨k + 1, by omega, by go_num, HE⟩, by simp [intOf]; omega⟩
      · have b1 : (l[k] != 0) = true := by simp [hz]
        have HE := Lib.hid (HD.out.trans (orL_no hz))
        clear hz
        go_wp2
        go_ret
        exact ⟨ret_int HE.out.symm, rfl⟩
    · have d : decide ((k : Int) < (n : Int)) = false := by (rw [decide_eq_false_iff_not]; omega)
      have HE := Lib.hid (HX.out.trans (orL_end (by have := HN.out; omega)))
      go_wp2
      go_ret
      exact ⟨ret_int HE.out.symm, rfl⟩

theorem cmp_nan (x : Int) (w : World) : Calls Tryz.prog 225 #[.int .i64 x] w fun e w' => e = .returned (.bool false) ∧ w = w' := by
  have d : (x != x) = false := by simp
  go_enter Tryz.func225, Tryz.ntmps225
  go_wp2
  go_ret
  exact ⟨rfl, rfl⟩
theorem cmpI_lt {x y : Int} (h : x < y) : cmpI x y = -1 := if_pos h
theorem cmpI_gt {x y : Int} (h : ¬ x < y) (h' : y < x) : cmpI x y = 1 := by unfold cmpI; rw [if_neg h, if_pos h']
theorem cmpI_eq {x y : Int} (h : ¬ x < y) (h' : ¬ y < x) : cmpI x y = 0 := by unfold cmpI; rw [if_neg h, if_neg h']
set_option maxHeartbeats 1000000 in
theorem cmp_Int (x y : Int) (w : World) : Calls Tryz.prog 162 #[.int .i64 x, .int .i64 y] w fun e w' => e = .returned (.int .i64 (cmpI x y)) ∧ w = w' := by
  have H := Lib.hid (fun z W => cmp_nan z W)
  by_cases h1 : x < y
  · have E := Lib.hid (cmpI_lt h1)
    have d1 : decide (x < y) = true := decide_eq_true h1
    clear h1
    go_enter Tryz.func162, Tryz.ntmps162
    go_wp2_with (go_at_call 225; refine (H.out _ _).mono ?_; rintro e w' ⟨rfl, rfl⟩)
    go_ret
    exact ⟨ret_int E.out.symm, rfl⟩
  · by_cases h2 : y < x
    · have E := Lib.hid (cmpI_gt h1 h2)
      have d1 : decide (x < y) = false := decide_eq_false h1
      have d2 : decide (y < x) = true := decide_eq_true h2
      clear h1 h2
      go_enter Tryz.func162, Tryz.ntmps162
      go_wp2_with (go_at_call 225; refine (H.out _ _).mono ?_; rintro e w' ⟨rfl, rfl⟩)
      go_ret
      exact ⟨ret_int E.out.symm, rfl⟩
    · have E := Lib.hid (cmpI_eq h1 h2)
      have d1 : decide (x < y) = false := decide_eq_false h1
      have d2 : decide (y < x) = false := decide_eq_false h2
      clear h1 h2
      go_enter Tryz.func162, Tryz.ntmps162
      go_wp2_with (go_at_call 225; refine (H.out _ _).mono ?_; rintro e w' ⟨rfl, rfl⟩)
      go_ret
      exact ⟨ret_int E.out.symm, rfl⟩

structure Gr (w w' : World) : Prop where
  below : Below w.heap.size w w'
  drawn : w.drawn ≤ w'.drawn
theorem Gr.refl (w : World) : Gr w w := ⟨Below.refl _ _, Nat.le_refl _⟩
theorem Gr.trans {w w1 w2 : World} (h : Gr w w1) (h' : Gr w1 w2) : Gr w w2 := ⟨h.below.trans (h'.below.mono h.below.size), Nat.le_trans h.drawn h'.drawn⟩
theorem Gr.alloc {w w1 : World} (h : Gr w w1) (o : Obj) : Gr w (w1.alloc o) := ⟨h.below.alloc h.below.size o, h.drawn⟩
theorem Gr.drewN {w w1 : World} (h : Gr w w1) (n : Nat) : Gr w (w1.drewN n) := ⟨below_drewN h.below n, Nat.le_trans h.drawn (Nat.le_add_right _ _)⟩
theorem Gr.drew {w w1 : World} (h : Gr w w1) : Gr w w1.drew := ⟨below_drew h.below, Nat.le_trans h.drawn (Nat.le_add_right _ _)⟩

set_option maxRecDepth 100000 in
set_option maxHeartbeats 1000000 in
theorem syn_orderG (x y : Rl) (w : World) : Calls Tryz.prog 161 #[rv x, rv y] w fun e w' => e = .returned (.int .i64 (cmpR x y)) ∧ Gr w w' := by
  obtain ⟨a, b⟩ := x
  obtain ⟨c, d⟩ := y
  go_enter Tryz.func161, Tryz.ntmps161
  go_wp2_with fail
  refine region_tail 10 (by kernel_rfl) (by kernel_rfl) ?_
  simp only [List.take_succ_cons, List.take_zero, List.drop_succ_cons, List.drop_zero]
  repeat still_step
  still_call (cmp_call a c _)
  repeat still_step
  still_call (cmp_call b d _)
  repeat still_step
  refine wpStill_nil ?_
  have E := Lib.hid (show cmpR ⟨a, b⟩ ⟨c, d⟩ = orI (cmpS a c) (cmpS b d) from rfl)
  generalize cmpS a c = p at E ⊢
  generalize cmpS b d = q at E ⊢
  go_wp2_with fail
  refine (cmp_Or2 _ p q _ (by simp [go_sem]) (by simp [go_sem])).mono ?_
  rintro e w' ⟨rfl, rfl⟩
  go_wp2
  go_ret
  exact ⟨ret_int (by rw [E.out]), ((((Gr.refl _).alloc _).alloc _).alloc _).drewN 1⟩

set_option maxRecDepth 100000 in
set_option maxHeartbeats 4000000 in
theorem syn_Order (s t : St) (w : World) : Calls Tryz.prog 107 #[sv s, sv t] w fun e w' => e = .returned (.int .i64 (cmpSt s t)) ∧ Gr w w' := by
  obtain ⟨k, ⟨h1, h2⟩, who, ⟨a1, a2⟩, ⟨b1, b2⟩, via⟩ := s
  obtain ⟨k', ⟨h1', h2'⟩, who', ⟨a1', a2'⟩, ⟨b1', b2'⟩, via'⟩ := t
  have A1 := fun W => syn_orderG ⟨h1, h2⟩ ⟨h1', h2'⟩ W
  have A2 := fun W => cmp_Int k k' W
  have A3 := fun W => cmp_call who who' W
  have A4 := fun W => syn_orderG ⟨a1, a2⟩ ⟨a1', a2'⟩ W
  have A5 := fun W => syn_orderG ⟨b1, b2⟩ ⟨b1', b2'⟩ W
  have A6 := fun W => cmp_call via via' W
  have E := Lib.hid (show cmpSt ⟨k, ⟨h1, h2⟩, who, ⟨a1, a2⟩, ⟨b1, b2⟩, via⟩ ⟨k', ⟨h1', h2'⟩, who', ⟨a1', a2'⟩, ⟨b1', b2'⟩, via'⟩ = orL [cmpR ⟨h1, h2⟩ ⟨h1', h2'⟩, cmpI k k', cmpS who who', cmpR ⟨a1, a2⟩ ⟨a1', a2'⟩, cmpR ⟨b1, b2⟩ ⟨b1', b2'⟩, cmpS via via'] from rfl)
  generalize cmpR ⟨h1, h2⟩ ⟨h1', h2'⟩ = p1 at A1 E
  generalize cmpI k k' = p2 at A2 E
  generalize cmpS who who' = p3 at A3 E
  generalize cmpR ⟨a1, a2⟩ ⟨a1', a2'⟩ = p4 at A4 E
  generalize cmpR ⟨b1, b2⟩ ⟨b1', b2'⟩ = p5 at A5 E
  generalize cmpS via via' = p6 at A6 E
  go_enter Tryz.func107, Tryz.ntmps107
  go_upto_region 1 with fail
  have HA : Blk (((w.alloc (.cells #[.int .i64 k, .string h1, .string h2, .string who, .string a1, .string a2, .string b1, .string b2, .string via] 80)).alloc (.cells #[.int .i64 k', .string h1', .string h2', .string who', .string a1', .string a2', .string b1', .string b2', .string via'] 80)).drew) w.heap.size #[.int .i64 k, .string h1, .string h2, .string who, .string a1, .string a2, .string b1, .string b2, .string via] := (Blk.new w _ _).alloc _
  have HB : Blk (((w.alloc (.cells #[.int .i64 k, .string h1, .string h2, .string who, .string a1, .string a2, .string b1, .string b2, .string via] 80)).alloc (.cells #[.int .i64 k', .string h1', .string h2', .string who', .string a1', .string a2', .string b1', .string b2', .string via'] 80)).drew) (w.heap.size + 1) #[.int .i64 k', .string h1', .string h2', .string who', .string a1', .string a2', .string b1', .string b2', .string via'] := by
    have := Blk.new (w.alloc (.cells #[.int .i64 k, .string h1, .string h2, .string who, .string a1, .string a2, .string b1, .string b2, .string via] 80)) #[.int .i64 k', .string h1', .string h2', .string who', .string a1', .string a2', .string b1', .string b2', .string via'] 80
    simp only [World.size_alloc] at this
    exact this
  have HG : Gr w (((w.alloc (.cells #[.int .i64 k, .string h1, .string h2, .string who, .string a1, .string a2, .string b1, .string b2, .string via] 80)).alloc (.cells #[.int .i64 k', .string h1', .string h2', .string who', .string a1', .string a2', .string b1', .string b2', .string via'] 80)).drew) := (((Gr.refl w).alloc _).alloc _).drew
  go_region_held3 (fun W => (∀ o, W.cell? ⟨w.heap.size, o, none⟩ = (#[.int .i64 k, .string h1, .string h2, .string who, .string a1, .string a2, .string b1, .string b2, .string via] : Array Value)[o]?) ∧ (∀ o, W.cell? ⟨w.heap.size + 1, o, none⟩ = (#[.int .i64 k', .string h1', .string h2', .string who', .string a1', .string a2', .string b1', .string b2', .string via'] : Array Value)[o]?))
    (first | exact ⟨HA.1, HB.1⟩ | exact ⟨(HA.alloc _).1, (HB.alloc _).1⟩ | go_keep)
    (first
      | (go_at_call_of 161 (Value.agg #[.string h1, .string h2]); refine (A1 _).mono ?_; rintro e wq ⟨rfl, hg⟩; have HG := HG.trans hg; have HA := HA.below hg.below; have HB := HB.below hg.below; have cq1 := HA.1; have cq2 := HB.1)
      | (go_at_call_of 161 (Value.agg #[.string a1, .string a2]); refine (A4 _).mono ?_; rintro e wq ⟨rfl, hg⟩; have HG := HG.trans hg; have HA := HA.below hg.below; have HB := HB.below hg.below; have cq1 := HA.1; have cq2 := HB.1)
      | (go_at_call_of 161 (Value.agg #[.string b1, .string b2]); refine (A5 _).mono ?_; rintro e wq ⟨rfl, hg⟩; have HG := HG.trans hg; have HA := HA.below hg.below; have HB := HB.below hg.below; have cq1 := HA.1; have cq2 := HB.1)
      | (go_at_call_of 162 (Value.int .i64 k); refine (A2 _).mono ?_; rintro e wq ⟨rfl, rfl⟩; have cq1 := HA.1; have cq2 := HB.1)
      | (go_at_call_of 163 (Value.string who); refine (A3 _).mono ?_; rintro e wq ⟨rfl, rfl⟩; have cq1 := HA.1; have cq2 := HB.1)
      | (go_at_call_of 163 (Value.string via); refine (A6 _).mono ?_; rintro e wq ⟨rfl, rfl⟩; have cq1 := HA.1; have cq2 := HB.1)
      | (go_at_call 160; refine (cmp_OrL _ 6 [p1, p2, p3, p4, p5, p6] _ rfl (Nat.le_of_ble_eq_true rfl) ?_).mono ?_; (intro i hi; rcases i with _ | _ | _ | _ | _ | _ | i <;> simp [go_sem] <;> (simp at hi; omega)); rintro e wq ⟨rfl, rfl⟩))
  go_wp2
  go_ret
  exact ⟨ret_int E.out.symm, HG.alloc _⟩

theorem syn_Sort1 (s t : St) (w : World) : Calls Tryz.prog 192 #[sv s, sv t] w fun e w' => e = .returned (.int .i64 (cmpSt s t)) ∧ Gr w w' := by
  have A := Lib.hid (fun W => syn_Order s t W)
  generalize cmpSt s t = c at A ⊢
  obtain ⟨k, ⟨h1, h2⟩, who, ⟨a1, a2⟩, ⟨b1, b2⟩, via⟩ := s
  obtain ⟨k', ⟨h1', h2'⟩, who', ⟨a1', a2'⟩, ⟨b1', b2'⟩, via'⟩ := t
  go_enter Tryz.func192, Tryz.ntmps192
  go_wp2_with (go_at_call 107; refine (A.out _).mono ?_; rintro e w1 ⟨rfl, hg⟩)
  go_ret
  exact ⟨rfl, (((Gr.refl w).alloc _).alloc _).trans hg⟩
end Go.Proofs.YtomhekohcadijaaGreatDoor
namespace Go.Proofs.YtomhekohcadijaaGreatDoor
open Go.RowKit

theorem cmp_neg : ∀ (a b : List UInt8), Lib.compareBytes b a = - Lib.compareBytes a b
  | [], [] => rfl
  | [], _ :: _ => rfl
  | _ :: _, [] => rfl
  | a :: xs, b :: ys => by
    simp only [Lib.compareBytes]
    by_cases h1 : a < b
    · have h2 : ¬ b < a := fun h => UInt8.lt_irrefl a (UInt8.lt_trans h1 h)
      simp [h1, h2]
    · by_cases h2 : b < a
      · simp [h1, h2]
      · simp [h1, h2, cmp_neg xs ys]
theorem cmpS_neg (a b : ByteArray) : cmpS b a = - cmpS a b := cmp_neg _ _
theorem cmpR_neg (a b : Rl) : cmpR b a = - cmpR a b := by
  unfold cmpR orI
  rw [cmpS_neg a.o b.o, cmpS_neg a.n b.n]
  by_cases h : cmpS a.o b.o = 0
  · rw [if_pos (by omega), if_pos h]
  · rw [if_neg (by omega), if_neg h]
theorem less_no {a b : Rl} (h : lessR b a = true) : lessR a b = false := by
  simp only [lessR, decide_eq_true_iff, decide_eq_false_iff_not] at h ⊢
  have := cmpR_neg a b
  omega
theorem eqSt_self (s : St) : eqSt s s = true := by simp [eqSt]
end Go.Proofs.YtomhekohcadijaaGreatDoor
namespace Go.Proofs.YtomhekohcadijaaGreatDoor

structure WCmp {α : Type} (c : α → α → Int) : Prop where
  neg : ∀ x y, c y x = - c x y
  le : ∀ x y z, c x y ≤ 0 → c y z ≤ 0 → c x z ≤ 0 ∧ (c x z = 0 → c x y = 0 ∧ c y z = 0)
theorem WCmp.on {α β : Type} {c : α → α → Int} (h : WCmp c) (f : β → α) : WCmp (fun x y => c (f x) (f y)) := ⟨fun _ _ => h.neg _ _, fun _ _ _ => h.le _ _ _⟩
theorem WCmp.or {α : Type} {c d : α → α → Int} (h : WCmp c) (h' : WCmp d) : WCmp (fun x y => orI (c x y) (d x y)) := by
  refine ⟨fun x y => ?_, fun x y z => ?_⟩
  · have := h.neg x y; have := h'.neg x y
    unfold orI; split <;> split <;> omega
  · intro h1 h2
    have a1 : c x y ≤ 0 := by unfold orI at h1; split at h1 <;> omega
    have a2 : c y z ≤ 0 := by unfold orI at h2; split at h2 <;> omega
    obtain ⟨b1, b2⟩ := h.le x y z a1 a2
    by_cases h0 : c x z = 0
    · obtain ⟨e1, e2⟩ := b2 h0
      rw [orI_yes e1] at h1 ⊢
      rw [orI_yes e2] at h2 ⊢
      rw [orI_yes h0]
      exact h'.le x y z h1 h2
    · rw [orI_no h0]
      exact ⟨b1, fun e => absurd e h0⟩
theorem wcmp_int : WCmp cmpI := by
  refine ⟨fun x y => ?_, fun x y z => ?_⟩
  · unfold cmpI; split <;> split <;> (try split) <;> omega
  · unfold cmpI
    intro h1 h2
    split at h1 <;> split at h2 <;> (try split at h1) <;> (try split at h2) <;> (constructor <;> (try split) <;> (try split) <;> omega)
theorem cb_lt {a b : UInt8} (xs ys : List UInt8) (h : a.toNat < b.toNat) : Lib.compareBytes (a :: xs) (b :: ys) = -1 := by
  simp only [Lib.compareBytes]; rw [if_pos (UInt8.lt_iff_toNat_lt.2 h)]
theorem cb_gt {a b : UInt8} (xs ys : List UInt8) (h : b.toNat < a.toNat) : Lib.compareBytes (a :: xs) (b :: ys) = 1 := by
  simp only [Lib.compareBytes]; rw [if_neg (fun h' => by have := UInt8.lt_iff_toNat_lt.1 h'; omega), if_pos (UInt8.lt_iff_toNat_lt.2 h)]
theorem cb_eq (a : UInt8) (xs ys : List UInt8) : Lib.compareBytes (a :: xs) (a :: ys) = Lib.compareBytes xs ys := by
  simp only [Lib.compareBytes]; rw [if_neg (UInt8.lt_irrefl a), if_neg (UInt8.lt_irrefl a)]
theorem cmpB_le : ∀ (a b c : List UInt8), Lib.compareBytes a b ≤ 0 → Lib.compareBytes b c ≤ 0 → Lib.compareBytes a c ≤ 0 ∧ (Lib.compareBytes a c = 0 → Lib.compareBytes a b = 0 ∧ Lib.compareBytes b c = 0)
  | [], [], c, _, h2 => ⟨h2, fun h => ⟨rfl, h⟩⟩
  | [], y :: ys, [], h1, h2 => by simp [Lib.compareBytes] at h2
  | [], y :: ys, z :: zs, h1, h2 => by simp [Lib.compareBytes]
  | x :: xs, [], c, h1, h2 => by simp [Lib.compareBytes] at h1
  | x :: xs, y :: ys, [], h1, h2 => by simp [Lib.compareBytes] at h2
  | x :: xs, y :: ys, z :: zs, h1, h2 => by
    have ih := cmpB_le xs ys zs
    rcases Nat.lt_trichotomy x.toNat y.toNat with a1 | a1 | a1
    · rcases Nat.lt_trichotomy y.toNat z.toNat with b1 | b1 | b1
      · rw [cb_lt xs zs (Nat.lt_trans a1 b1)]; exact ⟨by omega, fun h => by omega⟩
      · rw [cb_lt xs zs (by omega)]; exact ⟨by omega, fun h => by omega⟩
      · rw [cb_gt ys zs b1] at h2; omega
    · obtain rfl := UInt8.toNat_inj.1 a1
      rcases Nat.lt_trichotomy x.toNat z.toNat with b1 | b1 | b1
      · rw [cb_lt xs zs b1]; exact ⟨by omega, fun h => by omega⟩
      · obtain rfl := UInt8.toNat_inj.1 b1
        rw [cb_eq] at h1 h2
        rw [cb_eq, cb_eq, cb_eq]
        exact ih h1 h2
      · rw [cb_gt ys zs b1] at h2; omega
    · rw [cb_gt xs ys a1] at h1; omega
theorem wcmp_str : WCmp cmpS := ⟨cmpS_neg, fun _ _ _ => cmpB_le _ _ _⟩
theorem wcmp_rl : WCmp cmpR := (wcmp_str.on Rl.o).or (wcmp_str.on Rl.n)
theorem orL_one (x : Int) : orL [x] = x := by
  by_cases h : x = 0
  · rw [orL_yes h, h]; rfl
  · rw [orL_no h]
theorem orL_cons (x : Int) (r : List Int) : orL (x :: r) = orI x (orL r) := rfl
theorem orL_last (x : Int) : orI x (orL []) = x := orL_one x
theorem cmpSt_def (x y : St) : cmpSt x y = orI (cmpR x.h y.h) (orI (cmpI x.k y.k) (orI (cmpS x.who y.who) (orI (cmpR x.a y.a) (orI (cmpR x.b y.b) (cmpS x.via y.via))))) := by
  simp only [cmpSt, orL_cons, orL_last]
theorem wcmp_st : WCmp cmpSt := by
  have h := (wcmp_rl.on St.h).or ((wcmp_int.on St.k).or ((wcmp_str.on St.who).or ((wcmp_rl.on St.a).or ((wcmp_rl.on St.b).or (wcmp_str.on St.via)))))
  have e : cmpSt = fun x y => orI (cmpR x.h y.h) (orI (cmpI x.k y.k) (orI (cmpS x.who y.who) (orI (cmpR x.a y.a) (orI (cmpR x.b y.b) (cmpS x.via y.via))))) := by
    funext x y
    exact cmpSt_def x y
  rw [e]; exact h
theorem orI_zero {x y : Int} : orI x y = 0 ↔ x = 0 ∧ y = 0 := by
  unfold orI; split <;> omega
theorem cmpI_zero (x y : Int) : cmpI x y = 0 ↔ x = y := by unfold cmpI; split <;> (try split) <;> omega
theorem cmpR_zero (x y : Rl) : cmpR x y = 0 ↔ x = y := by
  obtain ⟨a, b⟩ := x; obtain ⟨c, d⟩ := y
  simp only [cmpR, orI_zero, cmpS_zero, Rl.mk.injEq]
theorem cmpSt_zero (x y : St) : cmpSt x y = 0 ↔ x = y := by
  obtain ⟨k, h, who, a, b, via⟩ := x; obtain ⟨k', h', who', a', b', via'⟩ := y
  simp only [cmpSt_def, orI_zero, cmpR_zero, cmpS_zero, cmpI_zero, St.mk.injEq]
  constructor
  · rintro ⟨a, b, c, d, e, f⟩; exact ⟨b, a, c, d, e, f⟩
  · rintro ⟨a, b, c, d, e, f⟩; exact ⟨b, a, c, d, e, f⟩
def sgn (x : Int) : Prop := x = -1 ∨ x = 0 ∨ x = 1
theorem sgn_or {x y : Int} (h : sgn x) (h' : sgn y) : sgn (orI x y) := by unfold orI; split <;> assumption
theorem sgn_bytes : ∀ (a b : List UInt8), sgn (Lib.compareBytes a b)
  | [], [] => .inr (.inl rfl)
  | [], _ :: _ => .inl rfl
  | _ :: _, [] => .inr (.inr rfl)
  | a :: xs, b :: ys => by
    simp only [Lib.compareBytes]
    split
    · exact .inl rfl
    · split
      · exact .inr (.inr rfl)
      · exact sgn_bytes xs ys
theorem sgn_rl (x y : Rl) : sgn (cmpR x y) := sgn_or (sgn_bytes _ _) (sgn_bytes _ _)
theorem lt_trans' {x y z : St} (h : cmpSt x y < 0) (h' : cmpSt y z < 0) : cmpSt x z < 0 := by
  obtain ⟨a, b⟩ := wcmp_st.le x y z (by omega) (by omega)
  have : ¬ cmpSt x z = 0 := fun e => by have := (b e).1; omega
  omega
theorem lt_irrefl' (x : St) : ¬ cmpSt x x < 0 := by have := (cmpSt_zero x x).2 rfl; omega

def Asc (l : List St) : Prop := l.Pairwise fun x y => cmpSt x y < 0
theorem asc_unique : ∀ (l m : List St), Asc l → Asc m → (∀ x, x ∈ l ↔ x ∈ m) → l = m
  | [], [], _, _, _ => rfl
  | [], y :: m, _, _, h => absurd ((h y).2 (by simp)) (by simp)
  | x :: l, [], _, _, h => absurd ((h x).1 (by simp)) (by simp)
  | x :: l, y :: m, hl, hm, h => by
    have hl' := List.pairwise_cons.1 hl
    have hm' := List.pairwise_cons.1 hm
    have e : x = y := by
      rcases List.mem_cons.1 ((h x).1 (by simp)) with e | e
      · exact e
      · rcases List.mem_cons.1 ((h y).2 (by simp)) with e' | e'
        · exact e'.symm
        · exact absurd (lt_trans' (hm'.1 x e) (hl'.1 y e')) (lt_irrefl' y)
    subst e
    refine congrArg (x :: ·) (asc_unique l m hl'.2 hm'.2 fun z => ?_)
    constructor
    · intro hz
      rcases List.mem_cons.1 ((h z).1 (by simp [hz])) with e | e
      · subst e; exact absurd (hl'.1 z hz) (lt_irrefl' z)
      · exact e
    · intro hz
      rcases List.mem_cons.1 ((h z).2 (by simp [hz])) with e | e
      · subst e; exact absurd (hm'.1 z hz) (lt_irrefl' z)
      · exact e

def dedup : List St → List St
  | [] => []
  | [x] => [x]
  | x :: y :: r => if x = y then dedup (y :: r) else x :: dedup (y :: r)
theorem dedup_mem : ∀ (l : List St) (z : St), z ∈ dedup l ↔ z ∈ l
  | [], z => by simp [dedup]
  | [x], z => by simp [dedup]
  | x :: y :: r, z => by
    have ih := dedup_mem (y :: r) z
    unfold dedup
    by_cases e : x = y
    · rw [if_pos e, ih, e]; simp
    · rw [if_neg e, List.mem_cons, ih, List.mem_cons (b := x)]
theorem dedup_asc : ∀ (l : List St), (l.Pairwise fun x y => cmpSt x y ≤ 0) → Asc (dedup l)
  | [], _ => List.Pairwise.nil
  | [x], _ => by simp [dedup, Asc]
  | x :: y :: r, h => by
    have h' := List.pairwise_cons.1 h
    have ih := dedup_asc (y :: r) h'.2
    unfold dedup
    by_cases e : x = y
    · rw [if_pos e]; exact ih
    · rw [if_neg e]
      refine List.pairwise_cons.2 ⟨fun z hz => ?_, ih⟩
      have hxy : cmpSt x y < 0 := by
        have := h'.1 y (by simp)
        have h0 : ¬ cmpSt x y = 0 := fun e' => e ((cmpSt_zero x y).1 e')
        omega
      have hz' := (dedup_mem (y :: r) z).1 hz
      rcases List.mem_cons.1 hz' with rfl | hz'
      · exact hxy
      · have hyz := (List.pairwise_cons.1 h'.2).1 z hz'
        obtain ⟨a, b⟩ := wcmp_st.le x y z (by omega) hyz
        have : ¬ cmpSt x z = 0 := fun e => by have := (b e).1; omega
        omega
end Go.Proofs.YtomhekohcadijaaGreatDoor
namespace Go.Proofs.YtomhekohcadijaaGreatDoor
open Go.RowKit Go.Shelf

theorem rolesS_two {s : St} (h : s.k = 2 ∨ s.k = 3) : rolesS s = [s.h, s.a] := by unfold rolesS; rw [if_pos h]
theorem rolesS_three {s : St} (h : s.k = 4) : rolesS s = [s.h, s.a, s.b] := by unfold rolesS; rw [if_neg (by omega), if_pos h]
theorem rolesS_one {s : St} (h : ¬ s.k = 2) (h3 : ¬ s.k = 3) (h4 : ¬ s.k = 4) : rolesS s = [s.h] := by unfold rolesS; rw [if_neg (by omega), if_neg h4]
theorem Sl.new (w : World) (cs : List Value) (t : TypeId) (size n g : Nat) (hg : g = w.heap.size) (hl : cs.length = n * size) (hm : n ≤ maxLen) :
    Sl (w.alloc (.cells cs.toArray t)) size (.slice (some ⟨g, 0, none⟩) n n) n cs := by
  subst hg
  refine ⟨hl, hm, .inr ⟨w.heap.size, 0, n, rfl, Nat.le_refl _, hm, by simp, fun j u hu => ?_⟩⟩
  rw [(Blk.new w cs.toArray t).1]
  simpa using hu

set_option maxRecDepth 100000 in
set_option maxHeartbeats 4000000 in
theorem syn_Roles (s : St) (w : World) :
    Calls Tryz.prog 255 #[sv s] w fun e w' => ∃ v, e = .returned v ∧ Sl w' 2 v (rolesS s).length ((rolesS s).flatMap Rl.cells) ∧ Below w.heap.size w w' := by
  obtain ⟨k, ⟨h1, h2⟩, who, ⟨a1, a2⟩, ⟨b1, b2⟩, via⟩ := s
  by_cases k2 : k = 2
  · subst k2
    rw [rolesS_two (.inl rfl)]
    go_enter Tryz.func255, Tryz.ntmps255
    go_wp2
    go_ret
    refine ⟨.slice (some ⟨w.heap.size + 1, 0, none⟩) 2 2, rfl, Sl.new _ [.string h1, .string h2, .string a1, .string a2] _ 2 2 (w.heap.size + 1) (by simp) rfl (by simp [maxLen]), ((Below.refl _ _).alloc (Nat.le_refl _) _).alloc (by simp) _⟩
  by_cases k3 : k = 3
  · subst k3
    rw [rolesS_two (.inr rfl)]
    go_enter Tryz.func255, Tryz.ntmps255
    go_wp2
    go_ret
    refine ⟨.slice (some ⟨w.heap.size + 1, 0, none⟩) 2 2, rfl, Sl.new _ [.string h1, .string h2, .string a1, .string a2] _ 2 2 (w.heap.size + 1) (by simp) rfl (by simp [maxLen]), ((Below.refl _ _).alloc (Nat.le_refl _) _).alloc (by simp) _⟩
  by_cases k4 : k = 4
  · subst k4
    rw [rolesS_three rfl]
    go_enter Tryz.func255, Tryz.ntmps255
    go_wp2
    go_ret
    refine ⟨.slice (some ⟨w.heap.size + 1, 0, none⟩) 3 3, rfl, Sl.new _ [.string h1, .string h2, .string a1, .string a2, .string b1, .string b2] _ 2 3 (w.heap.size + 1) (by simp) rfl (by simp [maxLen]), ((Below.refl _ _).alloc (Nat.le_refl _) _).alloc (by simp) _⟩
  have q2 : (k == 2) = false := by rw [beq_eq_false_iff_ne]; exact k2
  have q3 : (k == 3) = false := by rw [beq_eq_false_iff_ne]; exact k3
  have q4 : (k == 4) = false := by rw [beq_eq_false_iff_ne]; exact k4
  rw [rolesS_one k2 k3 k4]
  clear k2 k3 k4
  go_enter Tryz.func255, Tryz.ntmps255
  go_wp2
  go_ret
  refine ⟨.slice (some ⟨w.heap.size + 1, 0, none⟩) 1 1, rfl, Sl.new _ [.string h1, .string h2] _ 2 1 (w.heap.size + 1) (by simp) rfl (by simp [maxLen]), ((Below.refl _ _).alloc (Nat.le_refl _) _).alloc (by simp) _⟩

theorem rl_cell {w : World} {b off : Nat} {l : List Rl} (h : ∀ j u, (l.flatMap Rl.cells)[j]? = some u → w.cell? ⟨b, off + j, none⟩ = some u) (k : Nat) (hk : k < l.length) :
    w.cell? ⟨b, off + k * 2, none⟩ = some (.string l[k].o) ∧ w.cell? ⟨b, off + k * 2 + 1, none⟩ = some (.string l[k].n) := by
  have hx : l[k]? = some l[k] := List.getElem?_eq_getElem hk
  have h0 := h _ _ ((flat_get Rl.cells 2 Rl.cells_len l k 0 (by omega) _ hx).trans rfl)
  have h1 := h _ _ ((flat_get Rl.cells 2 Rl.cells_len l k 1 (by omega) _ hx).trans rfl)
  exact ⟨h0, h1⟩
end Go.Proofs.YtomhekohcadijaaGreatDoor
namespace Go.Proofs.YtomhekohcadijaaGreatDoor
open Go.RowKit Go.Shelf

theorem cmpI_neg' (x y : Int) : decide (cmpI x y < 0) = decide (x < y) := by
  unfold cmpI; split
  · rename_i h; simp [h]
  · rename_i h; split <;> simp [h]
theorem str_less (a b : ByteArray) : decide (cmpS a b < 0) = Op.bytesLess a.toList b.toList := by
  rw [toList_bl, toList_bl, cmp_less]; rfl
section
variable {s t : St}
theorem bef1 (h : ¬ s.h = t.h) : decide (cmpSt s t < 0) = lessR s.h t.h := by
  rw [cmpSt_def, orI_no (fun e => h ((cmpR_zero _ _).1 e))]; rfl
theorem bef2 (h1 : s.h = t.h) (h2 : ¬ s.k = t.k) : decide (cmpSt s t < 0) = decide (s.k < t.k) := by
  rw [cmpSt_def, orI_yes ((cmpR_zero _ _).2 h1), orI_no (fun e => h2 ((cmpI_zero _ _).1 e)), cmpI_neg']
theorem bef3 (h1 : s.h = t.h) (h2 : s.k = t.k) (h3 : ¬ s.who = t.who) : decide (cmpSt s t < 0) = Op.bytesLess s.who.toList t.who.toList := by
  rw [cmpSt_def, orI_yes ((cmpR_zero _ _).2 h1), orI_yes ((cmpI_zero _ _).2 h2), orI_no (fun e => h3 ((cmpS_zero _ _).1 e)), str_less]
theorem bef4 (h1 : s.h = t.h) (h2 : s.k = t.k) (h3 : s.who = t.who) (h4 : ¬ s.a = t.a) : decide (cmpSt s t < 0) = lessR s.a t.a := by
  rw [cmpSt_def, orI_yes ((cmpR_zero _ _).2 h1), orI_yes ((cmpI_zero _ _).2 h2), orI_yes ((cmpS_zero _ _).2 h3), orI_no (fun e => h4 ((cmpR_zero _ _).1 e))]; rfl
theorem bef5 (h1 : s.h = t.h) (h2 : s.k = t.k) (h3 : s.who = t.who) (h4 : s.a = t.a) (h5 : ¬ s.b = t.b) : decide (cmpSt s t < 0) = lessR s.b t.b := by
  rw [cmpSt_def, orI_yes ((cmpR_zero _ _).2 h1), orI_yes ((cmpI_zero _ _).2 h2), orI_yes ((cmpS_zero _ _).2 h3), orI_yes ((cmpR_zero _ _).2 h4), orI_no (fun e => h5 ((cmpR_zero _ _).1 e))]; rfl
theorem bef6 (h1 : s.h = t.h) (h2 : s.k = t.k) (h3 : s.who = t.who) (h4 : s.a = t.a) (h5 : s.b = t.b) : decide (cmpSt s t < 0) = Op.bytesLess s.via.toList t.via.toList := by
  rw [cmpSt_def, orI_yes ((cmpR_zero _ _).2 h1), orI_yes ((cmpI_zero _ _).2 h2), orI_yes ((cmpS_zero _ _).2 h3), orI_yes ((cmpR_zero _ _).2 h4), orI_yes ((cmpR_zero _ _).2 h5), str_less]
end

set_option maxRecDepth 100000 in
set_option maxHeartbeats 4000000 in
theorem ref3_Before (s t : St) (w : World) : Calls Tryz.prog 56 #[sv s, sv t] w fun e w' => e = .returned (.bool (decide (cmpSt s t < 0))) ∧ Below w.heap.size w w' := by
  obtain ⟨k, ⟨h1, h2⟩, who, ⟨a1, a2⟩, ⟨b1, b2⟩, via⟩ := s
  obtain ⟨k', ⟨h1', h2'⟩, who', ⟨a1', a2'⟩, ⟨b1', b2'⟩, via'⟩ := t
  have hEqR := role_neq
  by_cases g1 : (⟨h1, h2⟩ : Rl) = ⟨h1', h2'⟩
  case neg =>
    have E := Lib.hid (bef1 (s := ⟨k, ⟨h1, h2⟩, who, ⟨a1, a2⟩, ⟨b1, b2⟩, via⟩) (t := ⟨k', ⟨h1', h2'⟩, who', ⟨a1', a2'⟩, ⟨b1', b2'⟩, via'⟩) g1)
    have q1 : eqRl ⟨h1, h2⟩ ⟨h1', h2'⟩ = false := decide_eq_false g1
    clear g1
    go_enter Tryz.func56, Tryz.ntmps56
    go_wp2_with (go_at_call 58; refine (ref3_Less ⟨h1, h2⟩ ⟨h1', h2'⟩ _).mono ?_; rintro e w1 ⟨rfl, hb1⟩)
    go_ret
    refine ⟨ret_b E.out.symm, ?_⟩
    (repeat' (first | with_reducible exact Below.refl _ _ | with_reducible assumption | with_reducible (refine Below.setCell ?_ ?_ _) | with_reducible (refine Below.alloc ?_ ?_ _) | with_reducible (refine below_drew ?_) | with_reducible (refine below_drewN ?_ _) | with_reducible (refine Below.trans ?_ (Below.mono (by assumption) ?_)) | omega | (simp; done) | (simp; omega)))
  by_cases g2 : k = k'
  case neg =>
    have E := Lib.hid (bef2 (s := ⟨k, ⟨h1, h2⟩, who, ⟨a1, a2⟩, ⟨b1, b2⟩, via⟩) (t := ⟨k', ⟨h1', h2'⟩, who', ⟨a1', a2'⟩, ⟨b1', b2'⟩, via'⟩) g1 g2)
    have q1 : eqRl ⟨h1, h2⟩ ⟨h1', h2'⟩ = true := decide_eq_true g1
    have q2 : (k != k') = true := by simp [g2]
    clear g1 g2
    go_enter Tryz.func56, Tryz.ntmps56
    go_wp2
    go_ret
    refine ⟨ret_b E.out.symm, ?_⟩
    (repeat' (first | with_reducible exact Below.refl _ _ | with_reducible assumption | with_reducible (refine Below.setCell ?_ ?_ _) | with_reducible (refine Below.alloc ?_ ?_ _) | with_reducible (refine below_drew ?_) | with_reducible (refine below_drewN ?_ _) | with_reducible (refine Below.trans ?_ (Below.mono (by assumption) ?_)) | omega | (simp; done) | (simp; omega)))
  by_cases g3 : who = who'
  case neg =>
    have E := Lib.hid (bef3 (s := ⟨k, ⟨h1, h2⟩, who, ⟨a1, a2⟩, ⟨b1, b2⟩, via⟩) (t := ⟨k', ⟨h1', h2'⟩, who', ⟨a1', a2'⟩, ⟨b1', b2'⟩, via'⟩) g1 g2 g3)
    have q1 : eqRl ⟨h1, h2⟩ ⟨h1', h2'⟩ = true := decide_eq_true g1
    have q2 : (k != k') = false := by simp [g2]
    have q3 : (who.toList == who'.toList) = false := by rw [beq_str]; simp [g3]
    clear g1 g2 g3
    go_enter Tryz.func56, Tryz.ntmps56
    go_wp2
    go_ret
    refine ⟨ret_b E.out.symm, ?_⟩
    (repeat' (first | with_reducible exact Below.refl _ _ | with_reducible assumption | with_reducible (refine Below.setCell ?_ ?_ _) | with_reducible (refine Below.alloc ?_ ?_ _) | with_reducible (refine below_drew ?_) | with_reducible (refine below_drewN ?_ _) | with_reducible (refine Below.trans ?_ (Below.mono (by assumption) ?_)) | omega | (simp; done) | (simp; omega)))
  by_cases g4 : (⟨a1, a2⟩ : Rl) = ⟨a1', a2'⟩
  case neg =>
    have E := Lib.hid (bef4 (s := ⟨k, ⟨h1, h2⟩, who, ⟨a1, a2⟩, ⟨b1, b2⟩, via⟩) (t := ⟨k', ⟨h1', h2'⟩, who', ⟨a1', a2'⟩, ⟨b1', b2'⟩, via'⟩) g1 g2 g3 g4)
    have q1 : eqRl ⟨h1, h2⟩ ⟨h1', h2'⟩ = true := decide_eq_true g1
    have q2 : (k != k') = false := by simp [g2]
    have q3 : (who.toList == who'.toList) = true := by rw [beq_str]; simp [g3]
    have q4 : eqRl ⟨a1, a2⟩ ⟨a1', a2'⟩ = false := decide_eq_false g4
    clear g1 g2 g3 g4
    go_enter Tryz.func56, Tryz.ntmps56
    go_wp2_with (go_at_call 58; refine (ref3_Less ⟨a1, a2⟩ ⟨a1', a2'⟩ _).mono ?_; rintro e w1 ⟨rfl, hb1⟩)
    go_ret
    refine ⟨ret_b E.out.symm, ?_⟩
    (repeat' (first | with_reducible exact Below.refl _ _ | with_reducible assumption | with_reducible (refine Below.setCell ?_ ?_ _) | with_reducible (refine Below.alloc ?_ ?_ _) | with_reducible (refine below_drew ?_) | with_reducible (refine below_drewN ?_ _) | with_reducible (refine Below.trans ?_ (Below.mono (by assumption) ?_)) | omega | (simp; done) | (simp; omega)))
  by_cases g5 : (⟨b1, b2⟩ : Rl) = ⟨b1', b2'⟩
  case neg =>
    have E := Lib.hid (bef5 (s := ⟨k, ⟨h1, h2⟩, who, ⟨a1, a2⟩, ⟨b1, b2⟩, via⟩) (t := ⟨k', ⟨h1', h2'⟩, who', ⟨a1', a2'⟩, ⟨b1', b2'⟩, via'⟩) g1 g2 g3 g4 g5)
    have q1 : eqRl ⟨h1, h2⟩ ⟨h1', h2'⟩ = true := decide_eq_true g1
    have q2 : (k != k') = false := by simp [g2]
    have q3 : (who.toList == who'.toList) = true := by rw [beq_str]; simp [g3]
    have q4 : eqRl ⟨a1, a2⟩ ⟨a1', a2'⟩ = true := decide_eq_true g4
    have q5 : eqRl ⟨b1, b2⟩ ⟨b1', b2'⟩ = false := decide_eq_false g5
    clear g1 g2 g3 g4 g5
    go_enter Tryz.func56, Tryz.ntmps56
    go_wp2_with (go_at_call 58; refine (ref3_Less ⟨b1, b2⟩ ⟨b1', b2'⟩ _).mono ?_; rintro e w1 ⟨rfl, hb1⟩)
    go_ret
    refine ⟨ret_b E.out.symm, ?_⟩
    (repeat' (first | with_reducible exact Below.refl _ _ | with_reducible assumption | with_reducible (refine Below.setCell ?_ ?_ _) | with_reducible (refine Below.alloc ?_ ?_ _) | with_reducible (refine below_drew ?_) | with_reducible (refine below_drewN ?_ _) | with_reducible (refine Below.trans ?_ (Below.mono (by assumption) ?_)) | omega | (simp; done) | (simp; omega)))
  have E := Lib.hid (bef6 (s := ⟨k, ⟨h1, h2⟩, who, ⟨a1, a2⟩, ⟨b1, b2⟩, via⟩) (t := ⟨k', ⟨h1', h2'⟩, who', ⟨a1', a2'⟩, ⟨b1', b2'⟩, via'⟩) g1 g2 g3 g4 g5)
  have q1 : eqRl ⟨h1, h2⟩ ⟨h1', h2'⟩ = true := decide_eq_true g1
  have q2 : (k != k') = false := by simp [g2]
  have q3 : (who.toList == who'.toList) = true := by rw [beq_str]; simp [g3]
  have q4 : eqRl ⟨a1, a2⟩ ⟨a1', a2'⟩ = true := decide_eq_true g4
  have q5 : eqRl ⟨b1, b2⟩ ⟨b1', b2'⟩ = true := decide_eq_true g5
  clear g1 g2 g3 g4 g5
  go_enter Tryz.func56, Tryz.ntmps56
  go_wp2
  go_ret
  refine ⟨ret_b E.out.symm, ?_⟩
  (repeat' (first | with_reducible exact Below.refl _ _ | with_reducible assumption | with_reducible (refine Below.setCell ?_ ?_ _) | with_reducible (refine Below.alloc ?_ ?_ _) | with_reducible (refine below_drew ?_) | with_reducible (refine below_drewN ?_ _) | with_reducible (refine Below.trans ?_ (Below.mono (by assumption) ?_)) | omega | (simp; done) | (simp; omega)))
end Go.Proofs.YtomhekohcadijaaGreatDoor
namespace Go.Proofs.YtomhekohcadijaaGreatDoor
open Go.RowKit Go.Shelf

instance : Inhabited St := ⟨noS⟩
def SlA (w : World) (size : Nat) (v : Value) (n : Nat) (xs : List Value) : Prop := Sl w size v n xs ∨ ((∃ a c, v = .slice (some a) 0 c) ∧ n = 0 ∧ xs = [])
section
variable {w w' : World} {size n : Nat} {v : Value} {xs : List Value}
theorem Sl.a (h : Sl w size v n xs) : SlA w size v n xs := .inl h
theorem SlA.max (h : SlA w size v n xs) : n ≤ 9223372036854775807 := by
  rcases h with h | ⟨_, rfl, _⟩
  · exact h.max
  · exact Nat.zero_le _
theorem SlA.below (h : SlA w size v n xs) (hb : Below w.heap.size w w') : SlA w' size v n xs := by
  rcases h with h | h
  · exact .inl (h.below hb)
  · exact .inr h
theorem SlA.pos (h : SlA w size v n xs) (h0 : 0 < n) :
    ∃ b off cap, v = .slice (some ⟨b, off, none⟩) n cap ∧ n ≤ cap ∧ cap ≤ 9223372036854775807 ∧ b < w.heap.size ∧ ∀ j u, xs[j]? = some u → w.cell? ⟨b, off + j, none⟩ = some u := by
  rcases h with h | ⟨_, rfl, _⟩
  · exact h.pos h0
  · omega
theorem SlA.form (h : SlA w size v n xs) : ∃ (a : Option Addr) (cap : Nat), v = .slice a n cap := by
  rcases h with h | ⟨⟨a, c, rfl⟩, rfl, _⟩
  · exact h.form
  · exact ⟨_, _, rfl⟩
end
def hasS (l : List St) (s : St) : Bool := l.any (fun x => eqSt x s)
theorem st_cell {w : World} {b off : Nat} {l : List St} (h : ∀ j u, (l.flatMap St.cells)[j]? = some u → w.cell? ⟨b, off + j, none⟩ = some u) (k : Nat) (hk : k < l.length) :
    w.cell? ⟨b, off + k * 9, none⟩ = some (.int .i64 l[k].k) ∧ w.cell? ⟨b, off + k * 9 + 1, none⟩ = some (.string l[k].h.o) ∧ w.cell? ⟨b, off + k * 9 + 2, none⟩ = some (.string l[k].h.n) ∧ w.cell? ⟨b, off + k * 9 + 3, none⟩ = some (.string l[k].who) ∧ w.cell? ⟨b, off + k * 9 + 4, none⟩ = some (.string l[k].a.o) ∧ w.cell? ⟨b, off + k * 9 + 5, none⟩ = some (.string l[k].a.n) ∧ w.cell? ⟨b, off + k * 9 + 6, none⟩ = some (.string l[k].b.o) ∧ w.cell? ⟨b, off + k * 9 + 7, none⟩ = some (.string l[k].b.n) ∧ w.cell? ⟨b, off + k * 9 + 8, none⟩ = some (.string l[k].via) := by
  have hx : l[k]? = some l[k] := List.getElem?_eq_getElem hk
  have h0 := h _ _ ((flat_get St.cells 9 St.cells_len l k 0 (by omega) _ hx).trans rfl)
  have h1 := h _ _ ((flat_get St.cells 9 St.cells_len l k 1 (by omega) _ hx).trans rfl)
  have h2 := h _ _ ((flat_get St.cells 9 St.cells_len l k 2 (by omega) _ hx).trans rfl)
  have h3 := h _ _ ((flat_get St.cells 9 St.cells_len l k 3 (by omega) _ hx).trans rfl)
  have h4 := h _ _ ((flat_get St.cells 9 St.cells_len l k 4 (by omega) _ hx).trans rfl)
  have h5 := h _ _ ((flat_get St.cells 9 St.cells_len l k 5 (by omega) _ hx).trans rfl)
  have h6 := h _ _ ((flat_get St.cells 9 St.cells_len l k 6 (by omega) _ hx).trans rfl)
  have h7 := h _ _ ((flat_get St.cells 9 St.cells_len l k 7 (by omega) _ hx).trans rfl)
  have h8 := h _ _ ((flat_get St.cells 9 St.cells_len l k 8 (by omega) _ hx).trans rfl)
  exact ⟨h0, h1, h2, h3, h4, h5, h6, h7, h8⟩
theorem same_len {l m : List St} (h : ¬ l.length = m.length) : decide (l = m) = false := decide_eq_false (fun e => h (by rw [e]))
theorem take_more {l m : List St} {k : Nat} (h : l.take k = m.take k) (hl : k < l.length) (hm : k < m.length) (e : l[k] = m[k]) : l.take (k + 1) = m.take (k + 1) := by
  rw [List.take_succ_eq_append_getElem hl, List.take_succ_eq_append_getElem hm, h, e]
theorem same_end {l m : List St} {k : Nat} (h : l.take k = m.take k) (hl : ¬ k < l.length) (hm : ¬ k < m.length) : decide (l = m) = true := by
  rw [List.take_of_length_le (by omega), List.take_of_length_le (by omega)] at h
  exact decide_eq_true h
theorem same_no {l m : List St} {k : Nat} (hl : k < l.length) (hm : k < m.length) (e : ¬ l[k] = m[k]) : decide (l = m) = false := decide_eq_false (fun h => e (by subst h; rfl))

set_option maxRecDepth 100000 in
set_option maxHeartbeats 2000000 in
theorem ref3_Same (va vb : Value) (l m : List St) (w : World) (ha : SlA w 9 va l.length (l.flatMap St.cells)) (hb : SlA w 9 vb m.length (m.flatMap St.cells)) :
    Calls Tryz.prog 15 #[va, vb] w fun e w' => e = .returned (.bool (decide (l = m))) ∧ ∃ n, w' = w.drewN n := by
  have hmax := ha.max
  have hmax2 := hb.max
  by_cases hl : l.length = m.length
  case neg =>
    have R := Lib.hid (same_len hl)
    have d : ((l.length : Int) != (m.length : Int)) = true := by rw [bne_iff_ne]; omega
    obtain ⟨a1, c1, rfl⟩ := ha.form
    obtain ⟨a2, c2, rfl⟩ := hb.form
    clear ha hb hl
    go_enter Tryz.func15, Tryz.ntmps15
    go_wp2
    go_ret
    exact ⟨ret_b R.out.symm, 0, rfl⟩
  have hNe := stmt_neq'
  have hne : ((l.length : Int) != (m.length : Int)) = false := by rw [hl]; simp
  by_cases h0 : 0 < l.length
  · obtain ⟨b1, o1, c1, rfl, hc1, hm1, _, hx1⟩ := ha.pos h0
    obtain ⟨b2, o2, c2, rfl, hc2, hm2, _, hx2⟩ := hb.pos (by omega)
    have HX1 := Lib.hid hx1
    have HX2 := Lib.hid hx2
    have HL := Lib.hid hl
    clear ha hb hx1 hx2 hl
    go_enter Tryz.func15, Tryz.ntmps15
    go_wp2
    go_loopw [13] (fun i wr => ∃ k n : Nat, k ≤ l.length ∧ i = .int .i64 k ∧ wr = w.drewN n ∧ Hid (l.take k = m.take k)) (fun i _ => l.length - (intOf i).toNat)
    case atStart => exact ⟨0, 0, by omega, rfl, rfl, Lib.hid (by simp)⟩
    case round =>
      obtain ⟨k, n, hk, rfl, rfl, HT⟩ := hrel
      by_cases hlt : k < l.length
      · have hlt2 : k < m.length := by have := HL.out; omega
        obtain ⟨p0, p1, p2, p3, p4, p5, p6, p7, p8⟩ := st_cell HX1.out k hlt
        obtain ⟨q0, q1, q2, q3, q4, q5, q6, q7, q8⟩ := st_cell HX2.out k hlt2
        by_cases he : l[k] = m[k]
        · have HN := Lib.hid (take_more HT.out hlt hlt2 he)
          have d1 : (!eqSt ⟨l[k].k, ⟨l[k].h.o, l[k].h.n⟩, l[k].who, ⟨l[k].a.o, l[k].a.n⟩, ⟨l[k].b.o, l[k].b.n⟩, l[k].via⟩ ⟨m[k].k, ⟨m[k].h.o, m[k].h.n⟩, m[k].who, ⟨m[k].a.o, m[k].a.n⟩, ⟨m[k].b.o, m[k].b.n⟩, m[k].via⟩) = false := by
            have := congrArg (!·) (decide_eq_true he); exact this
          clear he
          go_wp2_with fail
          go_big_quiet (fail)
          go_wp2
          exact ⟨⟨k + 1, n + nq, by omega, by go_num, rfl, HN⟩, by simp [intOf]; omega⟩
        · have R := Lib.hid (same_no hlt hlt2 he)
          have d1 : (!eqSt ⟨l[k].k, ⟨l[k].h.o, l[k].h.n⟩, l[k].who, ⟨l[k].a.o, l[k].a.n⟩, ⟨l[k].b.o, l[k].b.n⟩, l[k].via⟩ ⟨m[k].k, ⟨m[k].h.o, m[k].h.n⟩, m[k].who, ⟨m[k].a.o, m[k].a.n⟩, ⟨m[k].b.o, m[k].b.n⟩, m[k].via⟩) = true := by
            have := congrArg (!·) (decide_eq_false he); exact this
          clear he
          go_wp2_with fail
          go_big_quiet (fail)
          go_wp2
          go_ret
          exact ⟨ret_b R.out.symm, n + nq, by simp [World.drewN, Nat.add_assoc]⟩
      · have R := Lib.hid (same_end HT.out hlt (by have := HL.out; omega))
        go_wp2
        go_ret
        exact ⟨ret_b R.out.symm, n, rfl⟩
  · have R := Lib.hid (same_end (l := l) (m := m) (k := 0) (by simp) h0 (by omega))
    obtain ⟨a1, c1, rfl⟩ := ha.form
    obtain ⟨a2, c2, rfl⟩ := hb.form
    have d0 : l.length = 0 := by omega
    have d02 : m.length = 0 := by omega
    clear ha hb h0 hmax hl hmax2
    go_enter Tryz.func15, Tryz.ntmps15
    go_wp2
    go_loopw [13] (fun i wr => i = .int .i64 0 ∧ wr = w) (fun _ _ => 0)
    case atStart => exact ⟨rfl, rfl⟩
    case round =>
      obtain ⟨rfl, rfl⟩ := hrel
      go_wp2
      go_ret
      exact ⟨ret_b R.out.symm, 0, rfl⟩

theorem has_yes {l : List St} {s : St} {k : Nat} (hl : k < l.length) (e : l[k] = s) : hasS l s = true := by
  unfold hasS; rw [List.any_eq_true]; exact ⟨l[k], List.getElem_mem hl, by simp [eqSt, e]⟩
theorem has_end {l : List St} {s : St} {k : Nat} (hk : ¬ k < l.length) (h : ∀ j (hj : j < l.length), j < k → ¬ l[j] = s) : hasS l s = false := by
  unfold hasS; rw [List.any_eq_false]
  intro x hx
  obtain ⟨j, hj, rfl⟩ := List.getElem_of_mem hx
  simp [eqSt, h j hj (by omega)]
set_option maxRecDepth 100000 in
set_option maxHeartbeats 2000000 in
theorem ref3_Has (va : Value) (l : List St) (s : St) (w : World) (ha : SlA w 9 va l.length (l.flatMap St.cells)) :
    Calls Tryz.prog 55 #[va, sv s] w fun e w' => e = .returned (.bool (hasS l s)) ∧ Below w.heap.size w w' := by
  have hmax := ha.max
  have hEq := stmt_eql'
  by_cases h0 : 0 < l.length
  · obtain ⟨b1, o1, c1, rfl, hc1, hm1, hb1, hx1⟩ := ha.pos h0
    have HX1 := Lib.hid hx1
    have HS := Lib.hid (fun k (hl : k < l.length) (e : l[k] = s) => has_yes hl e)
    have HE := Lib.hid (fun k (hk : ¬ k < l.length) h => has_end (l := l) (s := s) (k := k) hk h)
    have HD := Lib.hid (fun k (hl : k < l.length) => show (eqSt l[k] s = true ↔ l[k] = s) from decide_eq_true_iff)
    generalize hasS l s = res at HS HE ⊢
    clear ha hx1
    obtain ⟨ks, ⟨h1, h2⟩, who, ⟨a1, a2⟩, ⟨b1', b2'⟩, via⟩ := s
    go_enter Tryz.func55, Tryz.ntmps55
    go_wp2
    go_loopw [9] (fun i wr => ∃ k : Nat, k ≤ l.length ∧ i = .int .i64 k ∧ Below w.heap.size w wr ∧ Blk wr w.heap.size #[.int .i64 ks, .string h1, .string h2, .string who, .string a1, .string a2, .string b1', .string b2', .string via] ∧ Hid (∀ j (hj : j < l.length), j < k → ¬ l[j] = ⟨ks, ⟨h1, h2⟩, who, ⟨a1, a2⟩, ⟨b1', b2'⟩, via⟩)) (fun i _ => l.length - (intOf i).toNat)
    case atStart => exact ⟨0, by omega, rfl, (Below.refl _ _).alloc (Nat.le_refl _) _, Blk.new _ _ _, Lib.hid (fun _ _ h => absurd h (by omega))⟩
    case round =>
      obtain ⟨k, hk, rfl, hbw, hblk, HT⟩ := hrel
      have HBW := Lib.hid hbw
      have HBK := Lib.hid hblk
      have hz := hbw.size
      obtain ⟨cs, fs, zs⟩ := hblk
      by_cases hlt : k < l.length
      · obtain ⟨p0, p1, p2, p3, p4, p5, p6, p7, p8⟩ := st_cell (w := wr) (fun j u hu => (hbw.cell (p := ⟨b1, o1 + j, none⟩) hb1).trans (HX1.out j u hu)) k hlt
        have hb1' : b1 < wr.heap.size := Nat.lt_of_lt_of_le hb1 hz
        have hD := HD.out k hlt
        clear hbw
        cases he : eqSt l[k] ⟨ks, ⟨h1, h2⟩, who, ⟨a1, a2⟩, ⟨b1', b2'⟩, via⟩ with
        | true =>
          have R := Lib.hid (HS.out k hlt (hD.1 he))
          change eqSt ⟨l[k].k, ⟨l[k].h.o, l[k].h.n⟩, l[k].who, ⟨l[k].a.o, l[k].a.n⟩, ⟨l[k].b.o, l[k].b.n⟩, l[k].via⟩ _ = true at he
          clear hD
          go_wp2
          go_ret
          exact ⟨ret_b R.out.symm, HBW.out.alloc HBW.out.size _⟩
        | false =>
          have HN : Hid (∀ j (hj : j < l.length), j < k + 1 → ¬ l[j] = ⟨ks, ⟨h1, h2⟩, who, ⟨a1, a2⟩, ⟨b1', b2'⟩, via⟩) := Lib.hid (fun j hj hjk => by
            by_cases hjk' : j < k
            · exact HT.out j hj hjk'
            · obtain rfl : j = k := by omega
              intro e; rw [hD.2 e] at he; cases he)
          change eqSt ⟨l[k].k, ⟨l[k].h.o, l[k].h.n⟩, l[k].who, ⟨l[k].a.o, l[k].a.n⟩, ⟨l[k].b.o, l[k].b.n⟩, l[k].via⟩ _ = false at he
          clear hD
          go_wp2
          exact ⟨⟨k + 1, by omega, by go_num, HBW.out.alloc HBW.out.size _, HBK.out.alloc _, HN⟩, by simp [intOf]; omega⟩
      · have R := Lib.hid (HE.out k hlt HT.out)
        clear hbw
        go_wp2
        go_ret
        exact ⟨ret_b R.out.symm, HBW.out⟩
  · obtain ⟨a1, c1, rfl⟩ := ha.form
    obtain rfl : l = [] := List.eq_nil_of_length_eq_zero (by omega)
    clear ha h0 hmax
    obtain ⟨ks, ⟨h1, h2⟩, who, ⟨a1', a2'⟩, ⟨b1', b2'⟩, via⟩ := s
    go_enter Tryz.func55, Tryz.ntmps55
    go_wp2
    go_loopw [9] (fun i wr => i = .int .i64 0 ∧ Below w.heap.size w wr) (fun _ _ => 0)
    case atStart => exact ⟨rfl, (Below.refl _ _).alloc (Nat.le_refl _) _⟩
    case round =>
      obtain ⟨rfl, hbw⟩ := hrel
      go_wp2
      go_ret
      exact ⟨rfl, hbw⟩
end Go.Proofs.YtomhekohcadijaaGreatDoor
namespace Go.Proofs.YtomhekohcadijaaGreatDoor
open Go.RowKit Go.Shelf

theorem gb_setCell {w w' : World} {g o : Nat} (h : w.grownBy w' (some g)) (v : Value) : w.grownBy (w'.setCell ⟨g, o, none⟩ v) (some g) :=
  ⟨h.os, h.tape, h.output, by simpa [World.setCell] using h.size, fun k hk hne => (Below.heap_setCell _ _ _ _ (fun e => hne (by rw [e]))).trans (h.block k hk hne)⟩
theorem gb_alloc {w w' : World} {r : Option Nat} (h : w.grownBy w' r) (o : Obj) : w.grownBy (w'.alloc o) r :=
  ⟨h.os, h.tape, h.output, by have := h.size; simp; omega, fun k hk hne => (Below.heap_alloc _ _ _ (Nat.lt_of_lt_of_le hk h.size)).trans (h.block k hk hne)⟩
theorem gb_trans {a b c : World} {r : Option Nat} (h : a.grownBy b r) (k : b.grownBy c r) : a.grownBy c r :=
  ⟨k.os.trans h.os, k.tape.trans h.tape, k.output.trans h.output, Nat.le_trans h.size k.size, fun i hi hne => (k.block i (Nat.lt_of_lt_of_le hi h.size) hne).trans (h.block i hi hne)⟩
theorem gb_of_below {w w' : World} {r : Option Nat} (h : Below w.heap.size w w') : w.grownBy w' r := grown_of_below h r
theorem gb_new {w w' : World} {r : Option Nat} (h : w.grownBy w' r) {g o : Nat} (hg : w.heap.size ≤ g) (v : Value) : w.grownBy (w'.setCell ⟨g, o, none⟩ v) r :=
  ⟨h.os, h.tape, h.output, by simpa [World.setCell] using h.size, fun k hk hne => (Below.heap_setCell _ _ _ _ (by dsimp only; omega)).trans (h.block k hk hne)⟩

theorem Blk.grown {w w' : World} {g : Nat} {cs : Array Value} {r : Option Nat} (h : Blk w g cs) (hg : w.grownBy w' r) (hne : some g ≠ r) : Blk w' g cs :=
  ⟨fun o => (World.cell?_of_block (a := ⟨g, o, none⟩) (hg.block g h.2.2 hne)).trans (h.1 o), fun o => (World.frozen?_of_block (a := ⟨g, o, none⟩) (hg.block g h.2.2 hne)).trans (h.2.1 o), Nat.lt_of_lt_of_le h.2.2 hg.size⟩
theorem setCell_frozen (w : World) (a b : Addr) (v : Value) : (w.setCell b v).frozen? a = w.frozen? a := by
  unfold World.frozen? World.setCell
  simp only [Array.getElem?_modify]
  by_cases h : b.block = a.block
  · rw [if_pos h]
    cases w.heap[a.block]? with
    | none => rfl
    | some ob => cases ob <;> rfl
  · rw [if_neg h]
theorem Blk.set {w : World} {g : Nat} {cs : Array Value} (h : Blk w g cs) (o : Nat) (v : Value) (ho : o < cs.size) : Blk (w.setCell ⟨g, o, none⟩ v) g (cs.set o v) := by
  refine ⟨fun p => ?_, fun p => by rw [setCell_frozen]; exact h.2.1 p, by simpa [World.setCell] using h.2.2⟩
  have hv := h.1 o
  have hc : (w.cell? ⟨g, o, none⟩).isSome = true := by rw [hv]; simp [ho]
  by_cases hp : p = o
  · subst hp
    rw [cell_set_same w g p v hc]; simp
  · have h1 : (w.setCell ⟨g, o, none⟩ v).cell? ⟨g, p, none⟩ = w.cell? ⟨g, p, none⟩ := by
      cases hh : w.heap[g]? with
      | none => simp [World.cell?, hh] at hc
      | some ob =>
        cases ob with
        | cells c e fz =>
          simp [World.cell?, hh] at hc
          simp [World.cell?, World.setCell, Array.getElem?_modify, hh, Ne.symm hp]
        | _ => simp [World.cell?, hh] at hc
    rw [h1, h.1 p, Array.getElem?_set_ne ho (Ne.symm hp)]
theorem Blk.congr {w : World} {g : Nat} {cs ds : Array Value} (h : Blk w g cs) (e : cs = ds) : Blk w g ds := e ▸ h
theorem Blk.cell {w : World} {g : Nat} {cs : Array Value} (h : Blk w g cs) (o : Nat) (v : Value) (hv : cs[o]? = some v) : w.cell? ⟨g, o, none⟩ = some v := (h.1 o).trans hv
theorem Sl.cells_later {w0 w : World} {off b : Nat} {xs : List Value} (hb : Below w0.heap.size w0 w) (hlt : b < w0.heap.size)
    (hx : ∀ j u, xs[j]? = some u → w0.cell? ⟨b, off + j, none⟩ = some u) : ∀ j u, xs[j]? = some u → w.cell? ⟨b, off + j, none⟩ = some u :=
  fun j u hu => (hb.cell (p := ⟨b, off + j, none⟩) hlt).trans (hx j u hu)
end Go.Proofs.YtomhekohcadijaaGreatDoor
