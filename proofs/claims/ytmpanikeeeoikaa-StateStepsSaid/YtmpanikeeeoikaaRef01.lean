/- The reference of layer 1: what its small functions return, for every text. -/
import Derived.Test.YtmpanikeeeoikaaScanSpec
namespace Go.Proofs.Ytmpanikeeeoikaa
open Go.RowKit Go.Shelf

def letterI (c : Int) : Bool := btw c 48 57 || btw c 65 90 || btw c 97 122
theorem letterI_alnum (c : UInt8) : letterI c.toNat = alnum c := by
  simp only [letterI, alnum]
  cases btw c.toNat 48 57 <;> cases btw c.toNat 65 90 <;> cases btw c.toNat 97 122 <;> rfl
theorem letterI_eq (c : Int) : letterI c = decide ((48 ≤ c ∧ c ≤ 57) ∨ (65 ≤ c ∧ c ≤ 90) ∨ (97 ≤ c ∧ c ≤ 122)) := by
  simp [letterI, btw, Bool.decide_or, Bool.decide_and, Bool.or_assoc]
theorem ref1_letter (c : Int) (w : World) : Calls Try.prog 80 #[.int .u8 c] w fun e w' => e = .returned (.bool (letterI c)) ∧ w = w' := by
  have hc : c < 48 ∨ (48 ≤ c ∧ c ≤ 57) ∨ (57 < c ∧ c < 65) ∨ (65 ≤ c ∧ c ≤ 90) ∨ (90 < c ∧ c < 97) ∨ (97 ≤ c ∧ c ≤ 122) ∨ 122 < c := by omega
  rcases hc with hc | ⟨hc, hd⟩ | ⟨hc, hd⟩ | ⟨hc, hd⟩ | ⟨hc, hd⟩ | ⟨hc, hd⟩ | hc
  all_goals
    go_enter Try.func80, Try.ntmps80
    go_wp2
    all_goals
      go_ret
      exact ⟨ret_b (by rw [letterI_eq]; first | exact (decide_eq_true (by omega)).symm | exact (decide_eq_false (by omega)).symm | (rw [decide_eq_decide]; omega) | (simp only [← Bool.decide_or, decide_eq_decide]; omega)), rfl⟩

set_option maxHeartbeats 1000000 in
theorem ref1_is (lo hi : Int) (s : ByteArray) (w : World) (hs : s.size ≤ 9223372036854775807) :
    Calls Try.prog 67 #[.string s, .int .u8 lo, .int .u8 hi] w fun e w' => e = .returned (.bool (isP lo hi (bl s))) ∧ w = w' := by
  by_cases h0 : 0 < s.size
  · have h1 : decide ((s.size : Int) < 1) = false := by simp; omega
    by_cases h8 : s.size ≤ 8
    · have h8' : decide (8 < (s.size : Int)) = false := by simp; omega
      by_cases hlo : (s[0].toNat : Int) < lo
      · have HF := Lib.hid (isP_false lo hi s h0 (by simp [btw]; omega))
        have d1 : decide ((s[0].toNat : Int) < lo) = true := by simp; omega
        go_enter Try.func67, Try.ntmps67
        go_wp2
        go_ret
        exact ⟨ret_b HF.out.symm, rfl⟩
      · have d1 : decide ((s[0].toNat : Int) < lo) = false := by simp; omega
        by_cases hhi : hi < (s[0].toNat : Int)
        · have HF := Lib.hid (isP_false lo hi s h0 (by simp [btw]; omega))
          have d2 : decide (hi < (s[0].toNat : Int)) = true := by simp; omega
          go_enter Try.func67, Try.ntmps67
          go_wp2
          go_ret
          exact ⟨ret_b HF.out.symm, rfl⟩
        · have HF := Lib.hid (isP_of lo hi s h0 h8 (by simp [btw]; omega))
          have d2 : decide (hi < (s[0].toNat : Int)) = false := by simp; omega
          go_enter Try.func67, Try.ntmps67
          go_wp2
          go_loop [7] (fun i => ∃ k : Nat, k ≤ s.size ∧ i = .int .i64 k ∧ (bl s).all alnum = ((bl s).drop k).all alnum) (fun i => s.size - (intOf i).toNat)
          case atStart => exact ⟨0, Nat.zero_le _, rfl, rfl⟩
          case round =>
            obtain ⟨k, hk, rfl, hal⟩ := hrel
            by_cases hlt : k < s.size
            · have HS := Lib.hid (hal.trans (all_step s k hlt))
              have HL := Lib.hid (fun W => ref1_letter s[k].toNat W)
              have HA := Lib.hid (letterI_alnum s[k])
              clear hal
              cases ha : alnum s[k] with
              | true =>
                rw [ha] at HS HA
                clear ha
                go_wp2_with (go_at_call 80; refine (HL.out _).mono ?_; rw [HA.out]; rintro e w' ⟨rfl, rfl⟩)
                exact ⟨⟨k + 1, by omega, by go_num, HS.out⟩, by simp [intOf]; omega⟩
              | false =>
                rw [ha] at HS HA
                clear ha
                go_wp2_with (go_at_call 80; refine (HL.out _).mono ?_; rw [HA.out]; rintro e w' ⟨rfl, rfl⟩)
                go_ret
                exact ⟨ret_b (HF.out.trans HS.out).symm, rfl⟩
            · have HS := Lib.hid (hal.trans (all_end s k hlt))
              clear hal
              go_wp2
              go_ret
              exact ⟨ret_b (HF.out.trans HS.out).symm, rfl⟩
    · have HF := Lib.hid (isP_long lo hi s (by omega))
      have h8' : decide (8 < (s.size : Int)) = true := by simp; omega
      go_enter Try.func67, Try.ntmps67
      go_wp2
      go_ret
      exact ⟨ret_b HF.out.symm, rfl⟩
  · have h1 : decide ((s.size : Int) < 1) = true := by simp; omega
    have HF := Lib.hid (isP_nil lo hi s h0)
    go_enter Try.func67, Try.ntmps67
    go_wp2
    go_ret
    exact ⟨ret_b HF.out.symm, rfl⟩
theorem ref1_IsPrin (s : ByteArray) (w : World) (hs : s.size ≤ 9223372036854775807) :
    Calls Try.prog 45 #[.string s] w fun e w' => e = .returned (.bool (isP 65 90 (bl s))) ∧ w = w' := by
  go_enter Try.func45, Try.ntmps45
  go_wp2_with (go_at_call 67; refine (ref1_is 65 90 _ _ hs).mono ?_; rintro e w' ⟨rfl, rfl⟩)
  go_ret
  exact ⟨rfl, rfl⟩
theorem ref1_IsName (s : ByteArray) (w : World) (hs : s.size ≤ 9223372036854775807) :
    Calls Try.prog 46 #[.string s] w fun e w' => e = .returned (.bool (isP 97 122 (bl s))) ∧ w = w' := by
  go_enter Try.func46, Try.ntmps46
  go_wp2_with (go_at_call 67; refine (ref1_is 97 122 _ _ hs).mono ?_; rintro e w' ⟨rfl, rfl⟩)
  go_ret
  exact ⟨rfl, rfl⟩
end Go.Proofs.Ytmpanikeeeoikaa
