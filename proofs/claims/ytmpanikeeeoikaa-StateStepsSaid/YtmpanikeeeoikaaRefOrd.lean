/- The reference's order of statements, and rows of statements: Before, Has, Same. -/
import Derived.Test.YtmpanikeeeoikaaOrdLaw
import Derived.Test.YtmpanikeeeoikaaSynMore2
namespace Go.Proofs.Ytmpanikeeeoikaa
open Go.RowKit Go.Shelf

theorem cmpI_neg' (x y : Int) : decide (cmpI x y < 0) = decide (x < y) := by
  unfold cmpI; split
  · rename_i h; simp [h]
  · rename_i h; split <;> simp [h]
theorem str_less (a b : ByteArray) : decide (cmpS a b < 0) = Op.bytesLess a.toList b.toList := by
  rw [toList_bl, toList_bl, cmp_less]; rfl
section
variable {s t : St}
theorem bef1 (h : ¬ s.h = t.h) : decide (cmpSt s t < 0) = lessR s.h t.h := by
  rw [cmpSt_def, orI_no (fun e => h ((cmpR_zero _ _).1 e))]; rfl
theorem bef2 (h1 : s.h = t.h) (h2 : ¬ s.k = t.k) : decide (cmpSt s t < 0) = decide (s.k < t.k) := by
  rw [cmpSt_def, orI_yes ((cmpR_zero _ _).2 h1), orI_no (fun e => h2 ((cmpI_zero _ _).1 e)), cmpI_neg']
theorem bef3 (h1 : s.h = t.h) (h2 : s.k = t.k) (h3 : ¬ s.who = t.who) : decide (cmpSt s t < 0) = Op.bytesLess s.who.toList t.who.toList := by
  rw [cmpSt_def, orI_yes ((cmpR_zero _ _).2 h1), orI_yes ((cmpI_zero _ _).2 h2), orI_no (fun e => h3 ((cmpS_zero _ _).1 e)), str_less]
theorem bef4 (h1 : s.h = t.h) (h2 : s.k = t.k) (h3 : s.who = t.who) (h4 : ¬ s.a = t.a) : decide (cmpSt s t < 0) = lessR s.a t.a := by
  rw [cmpSt_def, orI_yes ((cmpR_zero _ _).2 h1), orI_yes ((cmpI_zero _ _).2 h2), orI_yes ((cmpS_zero _ _).2 h3), orI_no (fun e => h4 ((cmpR_zero _ _).1 e))]; rfl
theorem bef5 (h1 : s.h = t.h) (h2 : s.k = t.k) (h3 : s.who = t.who) (h4 : s.a = t.a) (h5 : ¬ s.b = t.b) : decide (cmpSt s t < 0) = lessR s.b t.b := by
  rw [cmpSt_def, orI_yes ((cmpR_zero _ _).2 h1), orI_yes ((cmpI_zero _ _).2 h2), orI_yes ((cmpS_zero _ _).2 h3), orI_yes ((cmpR_zero _ _).2 h4), orI_no (fun e => h5 ((cmpR_zero _ _).1 e))]; rfl
theorem bef6 (h1 : s.h = t.h) (h2 : s.k = t.k) (h3 : s.who = t.who) (h4 : s.a = t.a) (h5 : s.b = t.b) : decide (cmpSt s t < 0) = Op.bytesLess s.via.toList t.via.toList := by
  rw [cmpSt_def, orI_yes ((cmpR_zero _ _).2 h1), orI_yes ((cmpI_zero _ _).2 h2), orI_yes ((cmpS_zero _ _).2 h3), orI_yes ((cmpR_zero _ _).2 h4), orI_yes ((cmpR_zero _ _).2 h5), str_less]
end

set_option maxRecDepth 100000 in
set_option maxHeartbeats 4000000 in
theorem ref3_Before (s t : St) (w : World) : Calls Try.prog 43 #[sv s, sv t] w fun e w' => e = .returned (.bool (decide (cmpSt s t < 0))) ∧ Below w.heap.size w w' := by
  obtain ⟨k, ⟨h1, h2⟩, who, ⟨a1, a2⟩, ⟨b1, b2⟩, via⟩ := s
  obtain ⟨k', ⟨h1', h2'⟩, who', ⟨a1', a2'⟩, ⟨b1', b2'⟩, via'⟩ := t
  have hEqR := role_neq
  by_cases g1 : (⟨h1, h2⟩ : Rl) = ⟨h1', h2'⟩
  case neg =>
    have E := Lib.hid (bef1 (s := ⟨k, ⟨h1, h2⟩, who, ⟨a1, a2⟩, ⟨b1, b2⟩, via⟩) (t := ⟨k', ⟨h1', h2'⟩, who', ⟨a1', a2'⟩, ⟨b1', b2'⟩, via'⟩) g1)
    have q1 : eqRl ⟨h1, h2⟩ ⟨h1', h2'⟩ = false := decide_eq_false g1
    clear g1
    go_enter Try.func43, Try.ntmps43
    go_wp2_with (go_at_call 47; refine (ref3_Less ⟨h1, h2⟩ ⟨h1', h2'⟩ _).mono ?_; rintro e w1 ⟨rfl, hb1⟩)
    go_ret
    refine ⟨ret_b E.out.symm, ?_⟩
    (repeat' (first | with_reducible exact Below.refl _ _ | with_reducible assumption | with_reducible (refine Below.setCell ?_ ?_ _) | with_reducible (refine Below.alloc ?_ ?_ _) | with_reducible (refine below_drew ?_) | with_reducible (refine below_drewN ?_ _) | with_reducible (refine Below.trans ?_ (Below.mono (by assumption) ?_)) | omega | (simp; done) | (simp; omega)))
  by_cases g2 : k = k'
  case neg =>
    have E := Lib.hid (bef2 (s := ⟨k, ⟨h1, h2⟩, who, ⟨a1, a2⟩, ⟨b1, b2⟩, via⟩) (t := ⟨k', ⟨h1', h2'⟩, who', ⟨a1', a2'⟩, ⟨b1', b2'⟩, via'⟩) g1 g2)
    have q1 : eqRl ⟨h1, h2⟩ ⟨h1', h2'⟩ = true := decide_eq_true g1
    have q2 : (k != k') = true := by simp [g2]
    clear g1 g2
    go_enter Try.func43, Try.ntmps43
    go_wp2
    go_ret
    refine ⟨ret_b E.out.symm, ?_⟩
    (repeat' (first | with_reducible exact Below.refl _ _ | with_reducible assumption | with_reducible (refine Below.setCell ?_ ?_ _) | with_reducible (refine Below.alloc ?_ ?_ _) | with_reducible (refine below_drew ?_) | with_reducible (refine below_drewN ?_ _) | with_reducible (refine Below.trans ?_ (Below.mono (by assumption) ?_)) | omega | (simp; done) | (simp; omega)))
  by_cases g3 : who = who'
  case neg =>
    have E := Lib.hid (bef3 (s := ⟨k, ⟨h1, h2⟩, who, ⟨a1, a2⟩, ⟨b1, b2⟩, via⟩) (t := ⟨k', ⟨h1', h2'⟩, who', ⟨a1', a2'⟩, ⟨b1', b2'⟩, via'⟩) g1 g2 g3)
    have q1 : eqRl ⟨h1, h2⟩ ⟨h1', h2'⟩ = true := decide_eq_true g1
    have q2 : (k != k') = false := by simp [g2]
    have q3 : (who.toList == who'.toList) = false := by rw [beq_str]; simp [g3]
    clear g1 g2 g3
    go_enter Try.func43, Try.ntmps43
    go_wp2
    go_ret
    refine ⟨ret_b E.out.symm, ?_⟩
    (repeat' (first | with_reducible exact Below.refl _ _ | with_reducible assumption | with_reducible (refine Below.setCell ?_ ?_ _) | with_reducible (refine Below.alloc ?_ ?_ _) | with_reducible (refine below_drew ?_) | with_reducible (refine below_drewN ?_ _) | with_reducible (refine Below.trans ?_ (Below.mono (by assumption) ?_)) | omega | (simp; done) | (simp; omega)))
  by_cases g4 : (⟨a1, a2⟩ : Rl) = ⟨a1', a2'⟩
  case neg =>
    have E := Lib.hid (bef4 (s := ⟨k, ⟨h1, h2⟩, who, ⟨a1, a2⟩, ⟨b1, b2⟩, via⟩) (t := ⟨k', ⟨h1', h2'⟩, who', ⟨a1', a2'⟩, ⟨b1', b2'⟩, via'⟩) g1 g2 g3 g4)
    have q1 : eqRl ⟨h1, h2⟩ ⟨h1', h2'⟩ = true := decide_eq_true g1
    have q2 : (k != k') = false := by simp [g2]
    have q3 : (who.toList == who'.toList) = true := by rw [beq_str]; simp [g3]
    have q4 : eqRl ⟨a1, a2⟩ ⟨a1', a2'⟩ = false := decide_eq_false g4
    clear g1 g2 g3 g4
    go_enter Try.func43, Try.ntmps43
    go_wp2_with (go_at_call 47; refine (ref3_Less ⟨a1, a2⟩ ⟨a1', a2'⟩ _).mono ?_; rintro e w1 ⟨rfl, hb1⟩)
    go_ret
    refine ⟨ret_b E.out.symm, ?_⟩
    (repeat' (first | with_reducible exact Below.refl _ _ | with_reducible assumption | with_reducible (refine Below.setCell ?_ ?_ _) | with_reducible (refine Below.alloc ?_ ?_ _) | with_reducible (refine below_drew ?_) | with_reducible (refine below_drewN ?_ _) | with_reducible (refine Below.trans ?_ (Below.mono (by assumption) ?_)) | omega | (simp; done) | (simp; omega)))
  by_cases g5 : (⟨b1, b2⟩ : Rl) = ⟨b1', b2'⟩
  case neg =>
    have E := Lib.hid (bef5 (s := ⟨k, ⟨h1, h2⟩, who, ⟨a1, a2⟩, ⟨b1, b2⟩, via⟩) (t := ⟨k', ⟨h1', h2'⟩, who', ⟨a1', a2'⟩, ⟨b1', b2'⟩, via'⟩) g1 g2 g3 g4 g5)
    have q1 : eqRl ⟨h1, h2⟩ ⟨h1', h2'⟩ = true := decide_eq_true g1
    have q2 : (k != k') = false := by simp [g2]
    have q3 : (who.toList == who'.toList) = true := by rw [beq_str]; simp [g3]
    have q4 : eqRl ⟨a1, a2⟩ ⟨a1', a2'⟩ = true := decide_eq_true g4
    have q5 : eqRl ⟨b1, b2⟩ ⟨b1', b2'⟩ = false := decide_eq_false g5
    clear g1 g2 g3 g4 g5
    go_enter Try.func43, Try.ntmps43
    go_wp2_with (go_at_call 47; refine (ref3_Less ⟨b1, b2⟩ ⟨b1', b2'⟩ _).mono ?_; rintro e w1 ⟨rfl, hb1⟩)
    go_ret
    refine ⟨ret_b E.out.symm, ?_⟩
    (repeat' (first | with_reducible exact Below.refl _ _ | with_reducible assumption | with_reducible (refine Below.setCell ?_ ?_ _) | with_reducible (refine Below.alloc ?_ ?_ _) | with_reducible (refine below_drew ?_) | with_reducible (refine below_drewN ?_ _) | with_reducible (refine Below.trans ?_ (Below.mono (by assumption) ?_)) | omega | (simp; done) | (simp; omega)))
  have E := Lib.hid (bef6 (s := ⟨k, ⟨h1, h2⟩, who, ⟨a1, a2⟩, ⟨b1, b2⟩, via⟩) (t := ⟨k', ⟨h1', h2'⟩, who', ⟨a1', a2'⟩, ⟨b1', b2'⟩, via'⟩) g1 g2 g3 g4 g5)
  have q1 : eqRl ⟨h1, h2⟩ ⟨h1', h2'⟩ = true := decide_eq_true g1
  have q2 : (k != k') = false := by simp [g2]
  have q3 : (who.toList == who'.toList) = true := by rw [beq_str]; simp [g3]
  have q4 : eqRl ⟨a1, a2⟩ ⟨a1', a2'⟩ = true := decide_eq_true g4
  have q5 : eqRl ⟨b1, b2⟩ ⟨b1', b2'⟩ = true := decide_eq_true g5
  clear g1 g2 g3 g4 g5
  go_enter Try.func43, Try.ntmps43
  go_wp2
  go_ret
  refine ⟨ret_b E.out.symm, ?_⟩
  (repeat' (first | with_reducible exact Below.refl _ _ | with_reducible assumption | with_reducible (refine Below.setCell ?_ ?_ _) | with_reducible (refine Below.alloc ?_ ?_ _) | with_reducible (refine below_drew ?_) | with_reducible (refine below_drewN ?_ _) | with_reducible (refine Below.trans ?_ (Below.mono (by assumption) ?_)) | omega | (simp; done) | (simp; omega)))
end Go.Proofs.Ytmpanikeeeoikaa
