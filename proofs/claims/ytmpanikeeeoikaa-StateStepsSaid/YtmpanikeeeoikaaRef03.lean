/- The reference of layer 3: what its small functions return, for every role and statement of texts that are not too long. -/
import Derived.Test.YtmpanikeeeoikaaRef01
import Derived.Test.YtmpanikeeeoikaaSynRight
namespace Go.Proofs.Ytmpanikeeeoikaa
open Go.RowKit Go.Shelf

def eqS (a b : ByteArray) : Bool := decide (a = b)
theorem toList_emp {x : ByteArray} : x.toList = [] ↔ x = emp := by
  rw [show ([] : List UInt8) = emp.toList by rw [toList_bl]]; exact toList_inj
theorem eqS_yes {x : ByteArray} (h : x.toList = []) : eqS x emp = true := by simp [eqS, toList_emp.1 h]
theorem eqS_no {x : ByteArray} (h : ¬ x.toList = []) : eqS x emp = false := decide_eq_false (fun e => h (toList_emp.2 e))
theorem isEmpty_eqS (x : ByteArray) : x.toList.isEmpty = eqS x emp := by
  rw [Bool.eq_iff_iff, List.isEmpty_iff, toList_emp]; simp [eqS]

set_option maxHeartbeats 400000 in
theorem ref3_IsRole (r : Rl) (w : World) (hs : r.le 4294967) :
    Calls Try.prog 44 #[rv r] w fun e w' => e = .returned (.bool (isRole r)) ∧ Below w.heap.size w w' := by
  obtain ⟨o, n⟩ := r
  obtain ⟨h1, h2⟩ := hs
  have H1 := Lib.hid (fun W => ref1_IsPrin o W (by dsimp only at h1; omega))
  have H2 := Lib.hid (fun W => ref1_IsName n W (by dsimp only at h2; omega))
  clear h1 h2
  have E := Lib.hid (show isRole ⟨o, n⟩ = (isP 65 90 (bl o) && isP 97 122 (bl n)) from rfl)
  cases hp : isP 65 90 (bl o)
  all_goals
    rw [hp] at E
    go_enter Try.func44, Try.ntmps44
    go_wp2_with (first | (go_at_call 45; refine (H1.out _).mono ?_; rintro e w' ⟨rfl, rfl⟩) | (go_at_call 46; refine (H2.out _).mono ?_; rintro e w' ⟨rfl, rfl⟩))
    go_ret
    exact ⟨ret_b (by rw [E.out]; rfl), (Below.refl _ _).alloc (Nat.le_refl _) _⟩

theorem lessR_def (a b c d : ByteArray) : lessR ⟨a, b⟩ ⟨c, d⟩ = if a = c then Op.bytesLess b.toList d.toList else Op.bytesLess a.toList c.toList := by
  unfold lessR cmpR orI
  dsimp only
  rw [toList_bl, toList_bl, toList_bl, toList_bl, cmp_less, cmp_less]
  by_cases h : a = c
  · rw [if_pos h, if_pos ((cmpS_zero a c).2 h)]; rfl
  · rw [if_neg h, if_neg (fun e => h ((cmpS_zero a c).1 e))]; rfl
set_option maxHeartbeats 400000 in
theorem ref3_Less (x y : Rl) (w : World) : Calls Try.prog 47 #[rv x, rv y] w fun e w' => e = .returned (.bool (lessR x y)) ∧ Below w.heap.size w w' := by
  obtain ⟨a, b⟩ := x
  obtain ⟨c, d⟩ := y
  have E := Lib.hid (lessR_def a b c d)
  by_cases h : a = c
  · have hb : (a.toList == c.toList) = true := by rw [beq_str]; simp [h]
    have H := Lib.hid h
    clear h
    go_enter Try.func47, Try.ntmps47
    go_wp2
    go_ret
    exact ⟨ret_b (by rw [E.out, if_pos H.out]), ((Below.refl _ _).alloc (Nat.le_refl _) _).alloc (by simp) _⟩
  · have hb : (a.toList == c.toList) = false := by rw [beq_str]; simp [h]
    have H := Lib.hid h
    clear h
    go_enter Try.func47, Try.ntmps47
    go_wp2
    go_ret
    exact ⟨ret_b (by rw [E.out, if_neg H.out]), ((Below.refl _ _).alloc (Nat.le_refl _) _).alloc (by simp) _⟩
theorem rightR1 (h : Rl) (who : ByteArray) (a b : Rl) (via : ByteArray) : rightS ⟨1, h, who, a, b, via⟩ = (isRole h && (isP 65 90 (bl who) && eqRl a noR && eqRl b noR && eqS via emp)) := by
  simp [rightS, eqS]
theorem rightR2 (h : Rl) (who : ByteArray) (a b : Rl) (via : ByteArray) : rightS ⟨2, h, who, a, b, via⟩ = (isRole h && (eqS who emp && isRole a && (eqRl b noR && eqS via emp))) := by
  simp [rightS, eqS, Bool.and_assoc]
theorem rightR3 (h : Rl) (who : ByteArray) (a b : Rl) (via : ByteArray) : rightS ⟨3, h, who, a, b, via⟩ = (isRole h && (eqS who emp && isRole a && (eqRl b noR && isP 97 122 (bl via)))) := by
  simp [rightS, eqS, Bool.and_assoc]
theorem rightR4 (h : Rl) (who : ByteArray) (a b : Rl) (via : ByteArray) : rightS ⟨4, h, who, a, b, via⟩ = (isRole h && (eqS who emp && isRole a && (isRole b && eqS via emp && !lessR b a))) := by
  simp [rightS, eqS, Bool.and_assoc]

set_option maxRecDepth 100000 in
set_option maxHeartbeats 4000000 in
theorem ref3_Right (s : St) (w : World) (hs : s.le 4294967) :
    Calls Try.prog 26 #[sv s] w fun e w' => e = .returned (.bool (rightS s)) ∧ Below w.heap.size w w' := by
  have hle := Lib.hid hs
  clear hs
  have hEq := role_eql
  obtain ⟨k, ⟨h1, h2⟩, who, ⟨a1, a2⟩, ⟨b1, b2⟩, via⟩ := s
  by_cases k1 : k = 1
  · subst k1
    have R := Lib.hid (rightR1 ⟨h1, h2⟩ who ⟨a1, a2⟩ ⟨b1, b2⟩ via)
    go_enter Try.func26, Try.ntmps26
    go_wp2_with (first | (go_at_call 44; refine (ref3_IsRole ⟨_, _⟩ _ ?_).mono ?_; (first | exact hle.out.1 | exact hle.out.2.2.1 | exact hle.out.2.2.2.1); rintro e w1 ⟨rfl, hb⟩; obtain ⟨hc1, hf1⟩ := bcell hb; have hz1 := hb.size; (try simp at hz1); have hz2 : w.heap.size < w1.heap.size := (by omega); have hz3 : w.heap.size + 1 < w1.heap.size := (by omega)) | (go_at_call 45; refine (ref1_IsPrin who _ ?_).mono ?_; (have := hle.out.2.1; dsimp only at this; omega); rintro e w' ⟨rfl, rfl⟩))
    all_goals
      go_ret
      refine ⟨ret_b ?_, ?_⟩
      · go_tidy
        rw [R.out]
        clear hle R
        simp_all [noR, isEmpty_eqS, eqS]
      · (repeat' (first | exact Below.refl _ _ | (refine Below.trans ?_ (Below.mono (by assumption) ?_)) | (refine Below.alloc ?_ ?_ _) | (refine below_drew ?_) | (refine below_drewN ?_ _) | (refine Below.setCell ?_ ?_ _) | omega | (simp; done) | (simp; omega)))
  · by_cases k2 : k = 2
    · subst k2
      have R := Lib.hid (rightR2 ⟨h1, h2⟩ who ⟨a1, a2⟩ ⟨b1, b2⟩ via)
      go_enter Try.func26, Try.ntmps26
      go_wp2_with (first | (go_at_call 44; refine (ref3_IsRole ⟨_, _⟩ _ ?_).mono ?_; (first | exact hle.out.1 | exact hle.out.2.2.1 | exact hle.out.2.2.2.1); rintro e w1 ⟨rfl, hb⟩; obtain ⟨hc1, hf1⟩ := bcell hb; have hz1 := hb.size; (try simp at hz1); have hz2 : w.heap.size < w1.heap.size := (by omega); have hz3 : w.heap.size + 1 < w1.heap.size := (by omega)))
      all_goals
        go_ret
        refine ⟨ret_b ?_, ?_⟩
        · go_tidy
          rw [R.out]
          clear hle R
          simp_all [noR, isEmpty_eqS, toList_emp, eqS]
        · (repeat' (first | exact Below.refl _ _ | (refine Below.trans ?_ (Below.mono (by assumption) ?_)) | (refine Below.alloc ?_ ?_ _) | (refine below_drew ?_) | (refine below_drewN ?_ _) | (refine Below.setCell ?_ ?_ _) | omega | (simp; done) | (simp; omega)))
    · by_cases k3 : k = 3
      · subst k3
        have R := Lib.hid (rightR3 ⟨h1, h2⟩ who ⟨a1, a2⟩ ⟨b1, b2⟩ via)
        go_enter Try.func26, Try.ntmps26
        go_wp2_with (first | (go_at_call 44; refine (ref3_IsRole ⟨_, _⟩ _ ?_).mono ?_; (first | exact hle.out.1 | exact hle.out.2.2.1 | exact hle.out.2.2.2.1); rintro e w1 ⟨rfl, hb⟩; obtain ⟨hc1, hf1⟩ := bcell hb; have hz1 := hb.size; (try simp at hz1); have hz2 : w.heap.size < w1.heap.size := (by omega); have hz3 : w.heap.size + 1 < w1.heap.size := (by omega)) | (go_at_call 46; refine (ref1_IsName via _ ?_).mono ?_; (have := hle.out.2.2.2.2; dsimp only at this; omega); rintro e w' ⟨rfl, rfl⟩))
        all_goals
          go_ret
          refine ⟨ret_b ?_, ?_⟩
          · go_tidy
            rw [R.out]
            clear hle R
            simp_all [noR, toList_emp, eqS]
          · (repeat' (first | exact Below.refl _ _ | (refine Below.trans ?_ (Below.mono (by assumption) ?_)) | (refine Below.alloc ?_ ?_ _) | (refine below_drew ?_) | (refine below_drewN ?_ _) | (refine Below.setCell ?_ ?_ _) | omega | (simp; done) | (simp; omega)))
      · by_cases k4 : k = 4
        · subst k4
          have R := Lib.hid (rightR4 ⟨h1, h2⟩ who ⟨a1, a2⟩ ⟨b1, b2⟩ via)
          go_enter Try.func26, Try.ntmps26
          go_wp2_with (first | (go_at_call 44; refine (ref3_IsRole ⟨_, _⟩ _ ?_).mono ?_; (first | exact hle.out.1 | exact hle.out.2.2.1 | exact hle.out.2.2.2.1); rintro e w1 ⟨rfl, hb⟩; obtain ⟨hc1, hf1⟩ := bcell hb; have hz1 := hb.size; (try simp at hz1); have hz2 : w.heap.size < w1.heap.size := (by omega); have hz3 : w.heap.size + 1 < w1.heap.size := (by omega)) | (go_at_call 47; refine (ref3_Less ⟨b1, b2⟩ ⟨a1, a2⟩ _).mono ?_; rintro e w1 ⟨rfl, hb⟩; obtain ⟨hc1, hf1⟩ := bcell hb; have hz1 := hb.size; (try simp at hz1); have hz2 : w.heap.size < w1.heap.size := (by omega); have hz3 : w.heap.size + 1 < w1.heap.size := (by omega)))
          all_goals
            go_ret
            refine ⟨ret_b ?_, ?_⟩
            · go_tidy
              rw [R.out]
              clear hle R
              simp_all [toList_emp, eqS]
            · (repeat' (first | exact Below.refl _ _ | (refine Below.trans ?_ (Below.mono (by assumption) ?_)) | (refine Below.alloc ?_ ?_ _) | (refine below_drew ?_) | (refine below_drewN ?_ _) | (refine Below.setCell ?_ ?_ _) | omega | (simp; done) | (simp; omega)))
        · have R := Lib.hid (rightS0 k ⟨h1, h2⟩ who ⟨a1, a2⟩ ⟨b1, b2⟩ via k1 k2 k3 k4)
          have q1 : (k == 1) = false := by rw [beq_eq_false_iff_ne]; exact k1
          have q2 : (k == 2) = false := by rw [beq_eq_false_iff_ne]; exact k2
          have q3 : (k == 3) = false := by rw [beq_eq_false_iff_ne]; exact k3
          have q4 : k < 1 ∨ 4 < k := by omega
          clear k1 k2 k3 k4
          rcases q4 with q4 | q4
          · have d1 : decide (k < 1) = true := by simp; omega
            go_enter Try.func26, Try.ntmps26
            go_wp2_with (go_at_call 44; refine (ref3_IsRole ⟨_, _⟩ _ ?_).mono ?_; (first | exact hle.out.1 | exact hle.out.2.2.1 | exact hle.out.2.2.2.1); rintro e w1 ⟨rfl, hb⟩; obtain ⟨hc1, hf1⟩ := bcell hb; have hz1 := hb.size; (try simp at hz1); have hz2 : w.heap.size < w1.heap.size := (by omega); have hz3 : w.heap.size + 1 < w1.heap.size := (by omega))
            all_goals
              go_ret
              refine ⟨ret_b ?_, ?_⟩
              · rw [R.out]
              · (repeat' (first | exact Below.refl _ _ | (refine Below.trans ?_ (Below.mono (by assumption) ?_)) | (refine Below.alloc ?_ ?_ _) | (refine below_drew ?_) | (refine below_drewN ?_ _) | (refine Below.setCell ?_ ?_ _) | omega | (simp; done) | (simp; omega)))
          · have d1 : decide (k < 1) = false := by simp; omega
            have d2 : decide (4 < k) = true := by simp; omega
            go_enter Try.func26, Try.ntmps26
            go_wp2_with (go_at_call 44; refine (ref3_IsRole ⟨_, _⟩ _ ?_).mono ?_; (first | exact hle.out.1 | exact hle.out.2.2.1 | exact hle.out.2.2.2.1); rintro e w1 ⟨rfl, hb⟩; obtain ⟨hc1, hf1⟩ := bcell hb; have hz1 := hb.size; (try simp at hz1); have hz2 : w.heap.size < w1.heap.size := (by omega); have hz3 : w.heap.size + 1 < w1.heap.size := (by omega))
            all_goals
              go_ret
              refine ⟨ret_b ?_, ?_⟩
              · rw [R.out]
              · (repeat' (first | exact Below.refl _ _ | (refine Below.trans ?_ (Below.mono (by assumption) ?_)) | (refine Below.alloc ?_ ?_ _) | (refine below_drew ?_) | (refine below_drewN ?_ _) | (refine Below.setCell ?_ ?_ _) | omega | (simp; done) | (simp; omega)))
end Go.Proofs.Ytmpanikeeeoikaa
