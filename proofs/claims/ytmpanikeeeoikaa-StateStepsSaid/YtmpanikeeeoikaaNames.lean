/- The package names' small functions: what each returns, for every argument. -/
import Derived.Test.YtmpanikeeeoikaaBase
namespace Go.Proofs.Ytmpanikeeeoikaa
open Go.RowKit Go.Shelf

theorem names_between (c lo hi : Int) (w : World) :
    Calls Try.prog 86 #[.int .u8 c, .int .u8 lo, .int .u8 hi] w fun e w' => e = .returned (.bool (btw c lo hi)) ∧ w = w' := by
  by_cases h : lo ≤ c
  all_goals
    go_enter Try.func86, Try.ntmps86
    go_wp2
    go_ret
    exact ⟨ret_b (by simp [btw]; omega), rfl⟩
theorem names_small (c : Int) (w : World) :
    Calls Try.prog 76 #[.int .u8 c] w fun e w' => e = .returned (.bool (btw c 97 122)) ∧ w = w' := by
  go_enter Try.func76, Try.ntmps76
  go_wp2_with (go_at_call 86; refine (names_between _ _ _ _).mono ?_; rintro e w' ⟨rfl, rfl⟩)
  go_ret
  exact ⟨rfl, rfl⟩
theorem names_capital (c : Int) (w : World) :
    Calls Try.prog 75 #[.int .u8 c] w fun e w' => e = .returned (.bool (btw c 65 90)) ∧ w = w' := by
  go_enter Try.func75, Try.ntmps75
  go_wp2_with (go_at_call 86; refine (names_between _ _ _ _).mono ?_; rintro e w' ⟨rfl, rfl⟩)
  go_ret
  exact ⟨rfl, rfl⟩
theorem names_digit (c : Int) (w : World) :
    Calls Try.prog 85 #[.int .u8 c] w fun e w' => e = .returned (.bool (btw c 48 57)) ∧ w = w' := by
  go_enter Try.func85, Try.ntmps85
  go_wp2_with (go_at_call 86; refine (names_between _ _ _ _).mono ?_; rintro e w' ⟨rfl, rfl⟩)
  go_ret
  exact ⟨rfl, rfl⟩

theorem alnum_yes1 {c : UInt8} (h : btw c.toNat 97 122 = true) : alnum c = true := by simp [alnum, h]
theorem alnum_yes2 {c : UInt8} (h : btw c.toNat 65 90 = true) : alnum c = true := by simp [alnum, h]
theorem alnum_yes3 {c : UInt8} (h : (!btw c.toNat 48 57) = false) : alnum c = true := by simp at h; simp [alnum, h]
theorem alnum_no {c : UInt8} (h1 : ¬ btw c.toNat 97 122 = true) (h2 : ¬ btw c.toNat 65 90 = true) (h3 : (!btw c.toNat 48 57) = true) : alnum c = false := by simp at h1 h2 h3; simp [alnum, h1, h2, h3]

set_option maxHeartbeats 1000000 in
theorem names_is (g : Nat) (lo hi : Int) (s : ByteArray) (w : World) (hs : s.size ≤ 9223372036854775807)
    (hg : ∀ (c : Int) (w : World), Calls Try.prog g #[.int .u8 c] w fun e w' => e = .returned (.bool (btw c lo hi)) ∧ w = w')
    (eg : ∀ (args : Array Value) (w : World), (callFunc g args).run Try.prog w = .ok (.enter g args) w) :
    Calls Try.prog 74 #[.string s, .func (.func g) #[] #[]] w fun e w' => e = .returned (.bool (isP lo hi (bl s))) ∧ w = w' := by
  have H := Lib.hid hg
  clear hg
  by_cases h0 : 0 < s.size
  · have hn := size_ne s h0
    by_cases h8 : s.size ≤ 8
    · have h8' : decide (8 < (s.size : Int)) = false := by simp; omega
      cases hb : btw s[0].toNat lo hi with
      | false =>
        have HF := Lib.hid (isP_false lo hi s h0 hb)
        go_enter Try.func74, Try.ntmps74
        go_wp2_with fail
        refine (H.out _ _).mono ?_
        rintro e w' ⟨rfl, rfl⟩
        go_wp2
        go_ret
        exact ⟨ret_b HF.out.symm, rfl⟩
      | true =>
        have HF := Lib.hid (isP_of lo hi s h0 h8 hb)
        go_enter Try.func74, Try.ntmps74
        go_wp2_with fail
        refine (H.out _ _).mono ?_
        rintro e w' ⟨rfl, rfl⟩
        go_wp2_with fail
        go_loop [24] (fun i => ∃ k : Nat, k ≤ s.size ∧ i = .int .i64 k ∧ (bl s).all alnum = ((bl s).drop k).all alnum) (fun i => s.size - (intOf i).toNat)
        case atStart => exact ⟨0, Nat.zero_le _, rfl, rfl⟩
        case round =>
          obtain ⟨k, hk, rfl, hal⟩ := hrel
          by_cases hlt : k < s.size
          · have HS := Lib.hid (hal.trans (all_step s k hlt))
            clear hal
            go_wp2_with (first | (go_at_call 75; refine (names_capital _ _).mono ?_; rintro e w' ⟨rfl, rfl⟩) | (go_at_call 76; refine (names_small _ _).mono ?_; rintro e w' ⟨rfl, rfl⟩) | (go_at_call 85; refine (names_digit _ _).mono ?_; rintro e w' ⟨rfl, rfl⟩))
            all_goals first
              | exact ⟨⟨k + 1, by omega, by go_num, HS.out.trans (by rw [alnum_yes1 ‹_›]; rfl)⟩, by simp [intOf]; omega⟩
              | exact ⟨⟨k + 1, by omega, by go_num, HS.out.trans (by rw [alnum_yes2 ‹_›]; rfl)⟩, by simp [intOf]; omega⟩
              | exact ⟨⟨k + 1, by omega, by go_num, HS.out.trans (by rw [alnum_yes3 ‹_›]; rfl)⟩, by simp [intOf]; omega⟩
              | (go_ret; exact ⟨ret_b (HF.out.trans (HS.out.trans (by rw [alnum_no ‹_› ‹_› ‹_›]; rfl))).symm, rfl⟩)
          · have HS := Lib.hid (hal.trans (all_end s k hlt))
            clear hal
            go_wp2
            go_ret
            exact ⟨ret_b (HF.out.trans HS.out).symm, rfl⟩
    · have HF := Lib.hid (isP_long lo hi s (by omega))
      have h8' : decide (8 < (s.size : Int)) = true := by simp; omega
      go_enter Try.func74, Try.ntmps74
      go_wp2
      go_ret
      exact ⟨ret_b HF.out.symm, rfl⟩
  · have hn := size_eq s h0
    have HF := Lib.hid (isP_nil lo hi s h0)
    go_enter Try.func74, Try.ntmps74
    go_wp2
    go_ret
    exact ⟨ret_b HF.out.symm, rfl⟩
theorem names_IsPrin (s : ByteArray) (w : World) (hs : s.size ≤ 9223372036854775807) :
    Calls Try.prog 56 #[.string s] w fun e w' => e = .returned (.bool (isP 65 90 (bl s))) ∧ w = w' := by
  go_enter Try.func56, Try.ntmps56
  go_wp2_with (go_at_call 74; refine (names_is _ 65 90 _ _ hs names_capital (enters_of Try.func75 (by kernel_rfl) rfl)).mono ?_; rintro e w' ⟨rfl, rfl⟩)
  go_ret
  exact ⟨rfl, rfl⟩
theorem names_IsName (s : ByteArray) (w : World) (hs : s.size ≤ 9223372036854775807) :
    Calls Try.prog 57 #[.string s] w fun e w' => e = .returned (.bool (isP 97 122 (bl s))) ∧ w = w' := by
  go_enter Try.func57, Try.ntmps57
  go_wp2_with (go_at_call 74; refine (names_is _ 97 122 _ _ hs names_small (enters_of Try.func76 (by kernel_rfl) rfl)).mono ?_; rintro e w' ⟨rfl, rfl⟩)
  go_ret
  exact ⟨rfl, rfl⟩
end Go.Proofs.Ytmpanikeeeoikaa
