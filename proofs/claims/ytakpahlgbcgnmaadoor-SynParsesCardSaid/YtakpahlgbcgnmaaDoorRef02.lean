/- The reference of layer 2: what its small functions return, for every argument. -/
import Derived.Test.YtakpahlgbcgnmaaDoorScanTok
namespace Go.Proofs.YtakpahlgbcgnmaaDoor
open Go.RowKit Go.Shelf

theorem ref2_big (c : Int) (w : World) : Calls Tryd.prog 76 #[.int .u8 c] w fun e w' => e = .returned (.bool (btw c 65 90)) ∧ w = w' := by
  by_cases h : 65 ≤ c
  all_goals
    go_enter Tryd.func76, Tryd.ntmps76
    go_wp2
    go_ret
    exact ⟨ret_b (by simp [btw]; omega), rfl⟩
theorem ref2_small (c : Int) (w : World) : Calls Tryd.prog 77 #[.int .u8 c] w fun e w' => e = .returned (.bool (btw c 97 122)) ∧ w = w' := by
  by_cases h : 97 ≤ c
  all_goals
    go_enter Tryd.func77, Tryd.ntmps77
    go_wp2
    go_ret
    exact ⟨ret_b (by simp [btw]; omega), rfl⟩
theorem ref2_figure (c : Int) (w : World) : Calls Tryd.prog 78 #[.int .u8 c] w fun e w' => e = .returned (.bool (btw c 48 57)) ∧ w = w' := by
  by_cases h : 48 ≤ c
  all_goals
    go_enter Tryd.func78, Tryd.ntmps78
    go_wp2
    go_ret
    exact ⟨ret_b (by simp [btw]; omega), rfl⟩

theorem bare_stop (s : ByteArray) (k : Nat) (h : ∀ c ∈ (bl s).take k, (!(c == 35)) = true) (hk : k ≤ s.size) (hc : ∀ c, (bl s)[k]? = some c → (!(c == 35)) = false) : bare (bl s) = (bl s).take k := by
  have := (takeWhile_count (fun c => !(c == 35)) (bl s) k).2 ⟨h, by rw [bl_len]; exact hk, hc⟩
  unfold bare
  rw [takeWhile_take, this]

set_option maxHeartbeats 400000 in
theorem ref2_Bare (s : ByteArray) (w : World) (hs : s.size ≤ 9223372036854775807) :
    Calls Tryd.prog 63 #[.string s] w fun e w' => e = .returned (.string ⟨(bare (bl s)).toArray⟩) ∧ w = w' := by
  go_enter Tryd.func63, Tryd.ntmps63
  go_wp2
  go_loop [3] (fun i => ∃ k : Nat, k ≤ s.size ∧ i = .int .i64 k ∧ ∀ c ∈ (bl s).take k, (!(c == 35)) = true) (fun i => s.size - (intOf i).toNat)
  case atStart => exact ⟨0, by omega, rfl, by simp⟩
  case round =>
    obtain ⟨k, hk, rfl, hal⟩ := hrel
    have HA := Lib.hid hal
    clear hal
    by_cases hlt : k < s.size
    · have hat := bl_at s 0 k (by omega)
      simp only [List.drop_zero, Nat.zero_add] at hat
      by_cases h35 : s[k].toNat = 35
      · have b35 : ((s[k].toNat : Int) == 35) = true := by rw [beq_iff_eq]; omega
        have e35 : s[k] = 35 := UInt8.toNat_inj.1 h35
        have hbs := bare_stop s k HA.out hk (fun c h => by rw [hat] at h; cases h; rw [e35]; rfl)
        have hx : bl (s.extract 0 k) = bare (bl s) := by rw [bl_extract, hbs]; simp
        have HX := Lib.hid (str_eq hx)
        clear hat h35 e35 hbs hx
        go_wp2
        go_ret
        exact ⟨ret_s HX.out, rfl⟩
      · have b35 : ((s[k].toNat : Int) == 35) = false := by rw [beq_eq_false_iff_ne]; omega
        have hn : (!(s[k] == 35)) = true := by
          have : s[k] ≠ 35 := fun e => h35 (by rw [e]; rfl)
          simpa using this
        have HM := Lib.hid (show ∀ c ∈ (bl s).take (k + 1), (!(c == 35)) = true from by
          intro x hx
          rw [bl_take s k hlt] at hx
          rcases List.mem_append.1 hx with hx | hx
          · exact HA.out x hx
          · rw [List.mem_singleton.1 hx]; exact hn)
        clear hat h35 hn
        go_wp2
        exact ⟨⟨k + 1, by omega, by go_num, HM.out⟩, by simp [intOf]; omega⟩
    · have hbs := bare_stop s k HA.out hk (fun c h => by rw [List.getElem?_eq_none (by rw [bl_len]; omega)] at h; cases h)
      rw [List.take_of_length_le (by rw [bl_len]; omega)] at hbs
      have HX := Lib.hid (str_eq hbs.symm)
      clear hbs
      go_wp2
      go_ret
      exact ⟨ret_s HX.out, rfl⟩
end Go.Proofs.YtakpahlgbcgnmaaDoor
