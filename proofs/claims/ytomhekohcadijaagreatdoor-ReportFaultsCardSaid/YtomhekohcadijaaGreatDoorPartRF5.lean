/- syn.Right returns whether a statement may be, for every statement of texts that are not too long. -/
import Derived.Test.YtomhekohcadijaaGreatDoorPartRF4
namespace Go.Proofs.YtomhekohcadijaaGreatDoor
open Go.RowKit Go.Shelf

theorem toList_inj {a c : ByteArray} : a.toList = c.toList ↔ a = c := by rw [toList_bl, toList_bl]; exact bl_inj
theorem beq_str (a c : ByteArray) : (a.toList == c.toList) = decide (a = c) := by
  rw [toList_bl, toList_bl, Bool.eq_iff_iff]
  exact beq_iff_eq.trans (bl_inj.trans decide_eq_true_iff.symm)
set_option maxHeartbeats 1000000 in
theorem role_equalIn (d : Nat) (a b c e : ByteArray) (w : World) : (Op.equalIn (d + 2) 78 (.agg #[.string a, .string b]) (.agg #[.string c, .string e])).run Tryz.prog w = .ok (eqRl ⟨a, b⟩ ⟨c, e⟩) w := by
  have hS : Tryz.prog.underlying 78 = some (.struct (Tryz.prog.fieldsOf 78)) := by kernel_rfl
  have hp : Tryz.prog.stoodInHeld 78 = false := by kernel_rfl
  rw [run_equalIn_agg w (d + 1) 78 _ _ hS hp]
  simp only [Program.fieldsOf, Tryz.underlying78]
  go_simp
  simp only [toList_inj]
  by_cases h1 : a = c <;> by_cases h2 : b = e <;> simp [h1, h2, eqRl]
theorem role_neq (a b c e : ByteArray) (w : World) : (binOp .neq 78 (.agg #[.string a, .string b]) (.agg #[.string c, .string e])).run Tryz.prog w = .ok (.bool (!eqRl ⟨a, b⟩ ⟨c, e⟩)) w := by
  rw [run_neq_struct, show (10000 : Nat) = 9998 + 2 from rfl, role_equalIn 9998]
  rfl
set_option maxRecDepth 100000 in
set_option maxHeartbeats 4000000 in
theorem stmt_equalIn (d : Nat) (s t : St) (w : World) : (Op.equalIn (d + 3) 80 (sv s) (sv t)).run Tryz.prog w = .ok (eqSt s t) w := by
  have hS : Tryz.prog.underlying 80 = some (.struct (Tryz.prog.fieldsOf 80)) := by kernel_rfl
  have hp : Tryz.prog.stoodInHeld 80 = false := by kernel_rfl
  have hR := role_equalIn d
  obtain ⟨k, ⟨h1, h2⟩, who, ⟨a1, a2⟩, ⟨b1, b2⟩, via⟩ := s
  obtain ⟨k', ⟨h1', h2'⟩, who', ⟨a1', a2'⟩, ⟨b1', b2'⟩, via'⟩ := t
  rw [run_equalIn_agg w (d + 2) 80 _ _ hS hp]
  simp only [Program.fieldsOf, Tryz.underlying80]
  go_simp
  simp only [toList_inj, eqRl, eqSt, decide_eq_false_iff_not, St.mk.injEq]
  by_cases e1 : k = k'
  · by_cases e2 : (⟨h1, h2⟩ : Rl) = ⟨h1', h2'⟩
    · by_cases e3 : who = who'
      · by_cases e4 : (⟨a1, a2⟩ : Rl) = ⟨a1', a2'⟩
        · by_cases e5 : (⟨b1, b2⟩ : Rl) = ⟨b1', b2'⟩
          · by_cases e6 : via = via' <;> simp only [e1, e2, e3, e4, e5, e6, if_true, if_false, not_true, and_true, and_false, decide_true, decide_false]
          · simp only [e1, e2, e3, e4, e5, if_true, if_false, not_true, not_false_iff, and_false, false_and, decide_false]
        · simp only [e1, e2, e3, e4, if_true, if_false, not_true, not_false_iff, and_false, false_and, decide_false]
      · simp only [e1, e2, e3, if_true, if_false, not_true, and_false, false_and, decide_false]
    · simp only [e1, e2, if_true, not_false_iff, and_false, false_and, decide_false]
  · simp only [e1, if_false, false_and, decide_false]
theorem stmt_eql (s t : St) (w : World) : (binOp .eql 80 (sv s) (sv t)).run Tryz.prog w = .ok (.bool (eqSt s t)) w := by
  rw [run_eql_struct, show (10000 : Nat) = 9997 + 3 from rfl, stmt_equalIn 9997]
  rfl
theorem stmt_neq (s t : St) (w : World) : (binOp .neq 80 (sv s) (sv t)).run Tryz.prog w = .ok (.bool (!eqSt s t)) w := by
  rw [run_neq_struct, show (10000 : Nat) = 9997 + 3 from rfl, stmt_equalIn 9997]
  rfl

theorem stmt_eql' (k : Int) (h1 h2 who a1 a2 b1 b2 via : ByteArray) (k' : Int) (h1' h2' who' a1' a2' b1' b2' via' : ByteArray) (w : World) :
    (binOp .eql 80 (.agg #[.int .i64 k, .string h1, .string h2, .string who, .string a1, .string a2, .string b1, .string b2, .string via]) (.agg #[.int .i64 k', .string h1', .string h2', .string who', .string a1', .string a2', .string b1', .string b2', .string via'])).run Tryz.prog w = .ok (.bool (eqSt ⟨k, ⟨h1, h2⟩, who, ⟨a1, a2⟩, ⟨b1, b2⟩, via⟩ ⟨k', ⟨h1', h2'⟩, who', ⟨a1', a2'⟩, ⟨b1', b2'⟩, via'⟩)) w := stmt_eql ⟨k, ⟨h1, h2⟩, who, ⟨a1, a2⟩, ⟨b1, b2⟩, via⟩ ⟨k', ⟨h1', h2'⟩, who', ⟨a1', a2'⟩, ⟨b1', b2'⟩, via'⟩ w
theorem stmt_neq' (k : Int) (h1 h2 who a1 a2 b1 b2 via : ByteArray) (k' : Int) (h1' h2' who' a1' a2' b1' b2' via' : ByteArray) (w : World) :
    (binOp .neq 80 (.agg #[.int .i64 k, .string h1, .string h2, .string who, .string a1, .string a2, .string b1, .string b2, .string via]) (.agg #[.int .i64 k', .string h1', .string h2', .string who', .string a1', .string a2', .string b1', .string b2', .string via'])).run Tryz.prog w = .ok (.bool (!eqSt ⟨k, ⟨h1, h2⟩, who, ⟨a1, a2⟩, ⟨b1, b2⟩, via⟩ ⟨k', ⟨h1', h2'⟩, who', ⟨a1', a2'⟩, ⟨b1', b2'⟩, via'⟩)) w := stmt_neq ⟨k, ⟨h1, h2⟩, who, ⟨a1, a2⟩, ⟨b1, b2⟩, via⟩ ⟨k', ⟨h1', h2'⟩, who', ⟨a1', a2'⟩, ⟨b1', b2'⟩, via'⟩ w

set_option maxRecDepth 100000 in
set_option maxHeartbeats 4000000 in
theorem syn_Right (s : St) (w : World) (hs : s.le 4294967) :
    Calls Tryz.prog 114 #[sv s] w fun e w' => e = .returned (.bool (rightS s)) ∧ Below w.heap.size w w' := by
  have hle := Lib.hid hs
  clear hs
  have hEq := stmt_eql'
  obtain ⟨k, ⟨h1, h2⟩, who, ⟨a1, a2⟩, ⟨b1, b2⟩, via⟩ := s
  by_cases k1 : k = 1
  · subst k1
    have R := Lib.hid (rightS1 ⟨h1, h2⟩ who ⟨a1, a2⟩ ⟨b1, b2⟩ via)
    go_enter Tryz.func114, Tryz.ntmps114
    go_wp2_with (first | (go_at_call 108; refine (syn_IsRole ⟨h1, h2⟩ _ hle.out.1).mono ?_; rintro e w1 ⟨rfl, hb⟩; obtain ⟨hc1, hf1⟩ := bcell hb; have hz1 := hb.size; (try simp at hz1); have hz2 : w.heap.size < w1.heap.size := (by omega); have hz3 : w.heap.size + 1 < w1.heap.size := (by omega)) | (go_at_call 164; refine (names_IsPrin who _ ?_).mono ?_; (have := hle.out.2.1; dsimp only at this; omega); rintro e w' ⟨rfl, rfl⟩))
    all_goals
      go_ret
      refine ⟨ret_b ?_, ?_⟩
      · rw [R.out]
        first | (rw [‹isRole _ = true›, ‹isP 65 90 _ = true›]; rfl) | (rw [nb ‹¬isP 65 90 _ = true›, Bool.and_false]; rfl) | (rw [nb ‹¬isRole _ = true›]; rfl)
      · (repeat' (first | exact Below.refl _ _ | (refine Below.trans ?_ (Below.mono (by assumption) ?_)) | (refine Below.alloc ?_ ?_ _) | (refine below_drew ?_) | (refine below_drewN ?_ _) | (refine Below.setCell ?_ ?_ _) | omega | (simp; done) | (simp; omega)))
  · by_cases k2 : k = 2
    · subst k2
      have R := Lib.hid (rightS2 ⟨h1, h2⟩ who ⟨a1, a2⟩ ⟨b1, b2⟩ via)
      go_enter Tryz.func114, Tryz.ntmps114
      go_wp2_with (go_at_call 108; refine (syn_IsRole ⟨_, _⟩ _ ?_).mono ?_; (first | exact hle.out.1 | exact hle.out.2.2.1 | exact hle.out.2.2.2.1); rintro e w1 ⟨rfl, hb⟩; obtain ⟨hc1, hf1⟩ := bcell hb; have hz1 := hb.size; (try simp at hz1); have hz2 : w.heap.size < w1.heap.size := (by omega); have hz3 : w.heap.size + 1 < w1.heap.size := (by omega))
      all_goals
        go_ret
        refine ⟨ret_b ?_, ?_⟩
        · rw [R.out]
          first | (rw [‹isRole ⟨h1, h2⟩ = true›, ‹isRole ⟨a1, a2⟩ = true›]; rfl) | (rw [nb ‹¬isRole ⟨a1, a2⟩ = true›, Bool.and_false]; rfl) | (rw [nb ‹¬isRole ⟨h1, h2⟩ = true›]; rfl)
        · (repeat' (first | exact Below.refl _ _ | (refine Below.trans ?_ (Below.mono (by assumption) ?_)) | (refine Below.alloc ?_ ?_ _) | (refine below_drew ?_) | (refine below_drewN ?_ _) | (refine Below.setCell ?_ ?_ _) | omega | (simp; done) | (simp; omega)))
    · by_cases k3 : k = 3
      · subst k3
        have R := Lib.hid (rightS3 ⟨h1, h2⟩ who ⟨a1, a2⟩ ⟨b1, b2⟩ via)
        go_enter Tryz.func114, Tryz.ntmps114
        go_wp2_with (go_at_call 108; refine (syn_IsRole ⟨_, _⟩ _ ?_).mono ?_; (first | exact hle.out.1 | exact hle.out.2.2.1 | exact hle.out.2.2.2.1); rintro e w1 ⟨rfl, hb⟩; obtain ⟨hc1, hf1⟩ := bcell hb; have hz1 := hb.size; (try simp at hz1); have hz2 : w.heap.size < w1.heap.size := (by omega); have hz3 : w.heap.size + 1 < w1.heap.size := (by omega))
        go_region
        all_goals go_wp2_with (first | (go_at_call 108; refine (syn_IsRole ⟨_, _⟩ _ ?_).mono ?_; (first | exact hle.out.1 | exact hle.out.2.2.1 | exact hle.out.2.2.2.1); rintro e w1 ⟨rfl, hb⟩; obtain ⟨hc1, hf1⟩ := bcell hb; have hz1 := hb.size; (try simp at hz1); have hz2 : w.heap.size < w1.heap.size := (by omega); have hz3 : w.heap.size + 1 < w1.heap.size := (by omega)) | (go_at_call 165; refine (names_IsName via _ ?_).mono ?_; (have := hle.out.2.2.2.2; dsimp only at this; omega); rintro e w' ⟨rfl, rfl⟩))
        all_goals
          go_ret
          refine ⟨ret_b ?_, ?_⟩
          · rw [R.out]
            first | (rw [‹isRole ⟨h1, h2⟩ = true›, ‹isRole ⟨a1, a2⟩ = true›, ‹isP 97 122 (bl via) = true›]; rfl) | (rw [nb ‹¬isP 97 122 (bl via) = true›, Bool.and_false]; rfl) | (rw [nb ‹¬isRole ⟨a1, a2⟩ = true›, Bool.and_false]; rfl) | (rw [nb ‹¬isRole ⟨h1, h2⟩ = true›]; rfl)
          · (repeat' (first | exact Below.refl _ _ | (refine Below.trans ?_ (Below.mono (by assumption) ?_)) | (refine Below.alloc ?_ ?_ _) | (refine below_drew ?_) | (refine below_drewN ?_ _) | (refine Below.setCell ?_ ?_ _) | omega | (simp; done) | (simp; omega)))
      · by_cases k4 : k = 4
        · subst k4
          have R := Lib.hid (rightS4 ⟨h1, h2⟩ who ⟨a1, a2⟩ ⟨b1, b2⟩ via)
          go_enter Tryz.func114, Tryz.ntmps114
          go_wp2_with (go_at_call 108; refine (syn_IsRole ⟨_, _⟩ _ ?_).mono ?_; (first | exact hle.out.1 | exact hle.out.2.2.1 | exact hle.out.2.2.2.1); rintro e w1 ⟨rfl, hb⟩; obtain ⟨hc1, hf1⟩ := bcell hb; have hz1 := hb.size; (try simp at hz1); have hz2 : w.heap.size < w1.heap.size := (by omega); have hz3 : w.heap.size + 1 < w1.heap.size := (by omega))
          go_region
          all_goals go_wp2_with (first | (go_at_call 108; refine (syn_IsRole ⟨_, _⟩ _ ?_).mono ?_; (first | exact hle.out.1 | exact hle.out.2.2.1 | exact hle.out.2.2.2.1); rintro e w1 ⟨rfl, hb⟩; obtain ⟨hc1, hf1⟩ := bcell hb; have hz1 := hb.size; (try simp at hz1); have hz2 : w.heap.size < w1.heap.size := (by omega); have hz3 : w.heap.size + 1 < w1.heap.size := (by omega)) | (go_at_call 109; refine (syn_Less ⟨b1, b2⟩ ⟨a1, a2⟩ _).mono ?_; rintro e w1 ⟨rfl, hb⟩; obtain ⟨hc1, hf1⟩ := bcell hb; have hz1 := hb.size; (try simp at hz1); have hz2 : w.heap.size < w1.heap.size := (by omega); have hz3 : w.heap.size + 1 < w1.heap.size := (by omega)))
          all_goals
            go_ret
            refine ⟨ret_b ?_, ?_⟩
            · rw [R.out]
              first | (rw [‹isRole ⟨h1, h2⟩ = true›, ‹isRole ⟨a1, a2⟩ = true›, ‹isRole ⟨b1, b2⟩ = true›, nb ‹¬lessR ⟨b1, b2⟩ ⟨a1, a2⟩ = true›]; rfl) | (rw [‹lessR ⟨b1, b2⟩ ⟨a1, a2⟩ = true›, Bool.not_true, Bool.and_false]; rfl) | (rw [nb ‹¬isRole ⟨b1, b2⟩ = true›, Bool.and_false]; rfl) | (rw [nb ‹¬isRole ⟨a1, a2⟩ = true›, Bool.and_false]; rfl) | (rw [nb ‹¬isRole ⟨h1, h2⟩ = true›]; rfl)
            · (repeat' (first | exact Below.refl _ _ | (refine Below.trans ?_ (Below.mono (by assumption) ?_)) | (refine Below.alloc ?_ ?_ _) | (refine below_drew ?_) | (refine below_drewN ?_ _) | (refine Below.setCell ?_ ?_ _) | omega | (simp; done) | (simp; omega)))
        · have R := Lib.hid (rightS0 k ⟨h1, h2⟩ who ⟨a1, a2⟩ ⟨b1, b2⟩ via k1 k2 k3 k4)
          have q1 : (k == 1) = false := by rw [beq_eq_false_iff_ne]; exact k1
          have q2 : (k == 2) = false := by rw [beq_eq_false_iff_ne]; exact k2
          have q3 : (k == 3) = false := by rw [beq_eq_false_iff_ne]; exact k3
          have q4 : (k == 4) = false := by rw [beq_eq_false_iff_ne]; exact k4
          clear k1 k2 k3 k4
          go_enter Tryz.func114, Tryz.ntmps114
          go_wp2_with (go_at_call 108; refine (syn_IsRole ⟨_, _⟩ _ ?_).mono ?_; (first | exact hle.out.1 | exact hle.out.2.2.1 | exact hle.out.2.2.2.1); rintro e w1 ⟨rfl, hb⟩; obtain ⟨hc1, hf1⟩ := bcell hb; have hz1 := hb.size; (try simp at hz1); have hz2 : w.heap.size < w1.heap.size := (by omega); have hz3 : w.heap.size + 1 < w1.heap.size := (by omega))
          all_goals
            go_ret
            refine ⟨ret_b ?_, ?_⟩
            · rw [R.out]
            · (repeat' (first | exact Below.refl _ _ | (refine Below.trans ?_ (Below.mono (by assumption) ?_)) | (refine Below.alloc ?_ ?_ _) | (refine below_drew ?_) | (refine below_drewN ?_ _) | (refine Below.setCell ?_ ?_ _) | omega | (simp; done) | (simp; omega)))
end Go.Proofs.YtomhekohcadijaaGreatDoor
