/- The package names' small functions: what each returns, for every argument. The package syn: what its small functions return, for every role and statement. -/
import Derived.Test.YtomhekohcadijaaGreatDoorPartRF1
import Derived.Test.YtomhekohcadijaaGreatDoorPartRF2
import Derived.Test.YtomhekohcadijaaGreatDoorShelf
import Derived.StillTailTactics
namespace Go.Proofs.YtomhekohcadijaaGreatDoor
open Go.RowKit Go.Shelf

theorem names_between (c lo hi : Int) (w : World) :
    Calls Tryz.prog 265 #[.int .u8 c, .int .u8 lo, .int .u8 hi] w fun e w' => e = .returned (.bool (btw c lo hi)) ∧ w = w' := by
  by_cases h : lo ≤ c
  all_goals
    go_enter Tryz.func265, Tryz.ntmps265
    go_wp2
    go_ret
    exact ⟨ret_b (by simp [btw]; omega), rfl⟩
theorem names_small (c : Int) (w : World) :
    Calls Tryz.prog 229 #[.int .u8 c] w fun e w' => e = .returned (.bool (btw c 97 122)) ∧ w = w' := by
  go_enter Tryz.func229, Tryz.ntmps229
  go_wp2_with (go_at_call 265; refine (names_between _ _ _ _).mono ?_; rintro e w' ⟨rfl, rfl⟩)
  go_ret
  exact ⟨rfl, rfl⟩
theorem names_capital (c : Int) (w : World) :
    Calls Tryz.prog 228 #[.int .u8 c] w fun e w' => e = .returned (.bool (btw c 65 90)) ∧ w = w' := by
  go_enter Tryz.func228, Tryz.ntmps228
  go_wp2_with (go_at_call 265; refine (names_between _ _ _ _).mono ?_; rintro e w' ⟨rfl, rfl⟩)
  go_ret
  exact ⟨rfl, rfl⟩
theorem names_digit (c : Int) (w : World) :
    Calls Tryz.prog 264 #[.int .u8 c] w fun e w' => e = .returned (.bool (btw c 48 57)) ∧ w = w' := by
  go_enter Tryz.func264, Tryz.ntmps264
  go_wp2_with (go_at_call 265; refine (names_between _ _ _ _).mono ?_; rintro e w' ⟨rfl, rfl⟩)
  go_ret
  exact ⟨rfl, rfl⟩

theorem alnum_yes1 {c : UInt8} (h : btw c.toNat 97 122 = true) : alnum c = true := by simp [alnum, h]
theorem alnum_yes2 {c : UInt8} (h : btw c.toNat 65 90 = true) : alnum c = true := by simp [alnum, h]
theorem alnum_yes3 {c : UInt8} (h : (!btw c.toNat 48 57) = false) : alnum c = true := by simp at h; simp [alnum, h]
theorem alnum_no {c : UInt8} (h1 : ¬ btw c.toNat 97 122 = true) (h2 : ¬ btw c.toNat 65 90 = true) (h3 : (!btw c.toNat 48 57) = true) : alnum c = false := by simp at h1 h2 h3; simp [alnum, h1, h2, h3]

set_option maxHeartbeats 1000000 in
theorem names_is (g : Nat) (lo hi : Int) (s : ByteArray) (w : World) (hs : s.size ≤ 9223372036854775807)
    (hg : ∀ (c : Int) (w : World), Calls Tryz.prog g #[.int .u8 c] w fun e w' => e = .returned (.bool (btw c lo hi)) ∧ w = w')
    (eg : ∀ (args : Array Value) (w : World), (callFunc g args).run Tryz.prog w = .ok (.enter g args) w) :
    Calls Tryz.prog 227 #[.string s, .func (.func g) #[] #[]] w fun e w' => e = .returned (.bool (isP lo hi (bl s))) ∧ w = w' := by
  have H := Lib.hid hg
  clear hg
  by_cases h0 : 0 < s.size
  · have hn := size_ne s h0
    by_cases h8 : s.size ≤ 8
    · have h8' : decide (8 < (s.size : Int)) = false := by simp; omega
      cases hb : btw s[0].toNat lo hi with
      | false =>
        have HF := Lib.hid (isP_false lo hi s h0 hb)
        go_enter Tryz.func227, Tryz.ntmps227
        go_wp2_with fail
        refine (H.out _ _).mono ?_
        rintro e w' ⟨rfl, rfl⟩
        go_wp2
        go_ret
        exact ⟨ret_b HF.out.symm, rfl⟩
      | true =>
        have HF := Lib.hid (isP_of lo hi s h0 h8 hb)
        go_enter Tryz.func227, Tryz.ntmps227
        go_wp2_with fail
        refine (H.out _ _).mono ?_
        rintro e w' ⟨rfl, rfl⟩
        go_wp2_with fail
        go_loop [24] (fun i => ∃ k : Nat, k ≤ s.size ∧ i = .int .i64 k ∧ (bl s).all alnum = ((bl s).drop k).all alnum) (fun i => s.size - (intOf i).toNat)
        case atStart => exact ⟨0, Nat.zero_le _, rfl, rfl⟩
        case round =>
          obtain ⟨k, hk, rfl, hal⟩ := hrel
          by_cases hlt : k < s.size
          · have HS := Lib.hid (hal.trans (all_step s k hlt))
            clear hal
            go_wp2_with (first | (go_at_call 228; refine (names_capital _ _).mono ?_; rintro e w' ⟨rfl, rfl⟩) | (go_at_call 229; refine (names_small _ _).mono ?_; rintro e w' ⟨rfl, rfl⟩) | (go_at_call 264; refine (names_digit _ _).mono ?_; rintro e w' ⟨rfl, rfl⟩))
            all_goals first
              | exact ⟨⟨k + 1, by omega, by go_num, HS.out.trans (by rw [alnum_yes1 ‹_›]; rfl)⟩, by simp [intOf]; omega⟩
              | exact ⟨⟨k + 1, by omega, by go_num, HS.out.trans (by rw [alnum_yes2 ‹_›]; rfl)⟩, by simp [intOf]; omega⟩
              | exact ⟨⟨k + 1, by omega, by go_num, HS.out.trans (by rw [alnum_yes3 ‹_›]; rfl)⟩, by simp [intOf]; omega⟩
              | (go_ret; exact ⟨ret_b (HF.out.trans (HS.out.trans (by rw [alnum_no ‹_› ‹_› ‹_›]; rfl))).symm, rfl⟩)
          · have HS := Lib.hid (hal.trans (all_end s k hlt))
            clear hal
            go_wp2
            go_ret
            exact ⟨ret_b (HF.out.trans HS.out).symm, rfl⟩
    · have HF := Lib.hid (isP_long lo hi s (by omega))
      have h8' : decide (8 < (s.size : Int)) = true := by simp; omega
      go_enter Tryz.func227, Tryz.ntmps227
      go_wp2
      go_ret
      exact ⟨ret_b HF.out.symm, rfl⟩
  · have hn := size_eq s h0
    have HF := Lib.hid (isP_nil lo hi s h0)
    go_enter Tryz.func227, Tryz.ntmps227
    go_wp2
    go_ret
    exact ⟨ret_b HF.out.symm, rfl⟩
theorem names_IsPrin (s : ByteArray) (w : World) (hs : s.size ≤ 9223372036854775807) :
    Calls Tryz.prog 164 #[.string s] w fun e w' => e = .returned (.bool (isP 65 90 (bl s))) ∧ w = w' := by
  go_enter Tryz.func164, Tryz.ntmps164
  go_wp2_with (go_at_call 227; refine (names_is _ 65 90 _ _ hs names_capital (enters_of Tryz.func228 (by kernel_rfl) rfl)).mono ?_; rintro e w' ⟨rfl, rfl⟩)
  go_ret
  exact ⟨rfl, rfl⟩
theorem names_IsName (s : ByteArray) (w : World) (hs : s.size ≤ 9223372036854775807) :
    Calls Tryz.prog 165 #[.string s] w fun e w' => e = .returned (.bool (isP 97 122 (bl s))) ∧ w = w' := by
  go_enter Tryz.func165, Tryz.ntmps165
  go_wp2_with (go_at_call 227; refine (names_is _ 97 122 _ _ hs names_small (enters_of Tryz.func229 (by kernel_rfl) rfl)).mono ?_; rintro e w' ⟨rfl, rfl⟩)
  go_ret
  exact ⟨rfl, rfl⟩
end Go.Proofs.YtomhekohcadijaaGreatDoor
namespace Go.Proofs.YtomhekohcadijaaGreatDoor
open Go.RowKit Go.Shelf

set_option maxHeartbeats 400000 in
theorem syn_IsRole (r : Rl) (w : World) (hs : r.le 4294967) :
    Calls Tryz.prog 108 #[rv r] w fun e w' => e = .returned (.bool (isRole r)) ∧ Below w.heap.size w w' := by
  obtain ⟨o, n⟩ := r
  obtain ⟨h1, h2⟩ := hs
  have H1 := Lib.hid (fun W => names_IsPrin o W (by dsimp only at h1; omega))
  have H2 := Lib.hid (fun W => names_IsName n W (by dsimp only at h2; omega))
  clear h1 h2
  have E := Lib.hid (show isRole ⟨o, n⟩ = (isP 65 90 (bl o) && isP 97 122 (bl n)) from rfl)
  cases hp : isP 65 90 (bl o) with
  | true =>
    rw [hp] at E
    go_enter Tryz.func108, Tryz.ntmps108
    go_wp2_with (first | (go_at_call 164; refine (H1.out _).mono ?_; rintro e w' ⟨rfl, rfl⟩) | (go_at_call 165; refine (H2.out _).mono ?_; rintro e w' ⟨rfl, rfl⟩))
    go_ret
    exact ⟨ret_b (by rw [E.out]; rfl), (Below.refl _ _).alloc (Nat.le_refl _) _⟩
  | false =>
    rw [hp] at E
    go_enter Tryz.func108, Tryz.ntmps108
    go_wp2_with (first | (go_at_call 164; refine (H1.out _).mono ?_; rintro e w' ⟨rfl, rfl⟩) | (go_at_call 165; refine (H2.out _).mono ?_; rintro e w' ⟨rfl, rfl⟩))
    go_ret
    exact ⟨ret_b (by rw [E.out]; rfl), (Below.refl _ _).alloc (Nat.le_refl _) _⟩

theorem cmp_Or2 (b : Nat) (x y : Int) (w : World) (h0 : w.cell? ⟨b, 0, none⟩ = some (.int .i64 x)) (h1 : w.cell? ⟨b, 1, none⟩ = some (.int .i64 y)) :
    Calls Tryz.prog 160 #[.slice (some ⟨b, 0, none⟩) 2 2] w fun e w' => e = .returned (.int .i64 (orI x y)) ∧ w = w' := by
  go_enter Tryz.func160, Tryz.ntmps160
  go_wp2
  go_loop [8] (fun i => ∃ k : Nat, k ≤ 2 ∧ i = .int .i64 k ∧ (k = 1 → x = 0) ∧ (k = 2 → x = 0 ∧ y = 0)) (fun i => 2 - (intOf i).toNat)
  case atStart => exact ⟨0, by omega, rfl, by omega, by omega⟩
  case round =>
    obtain ⟨k, hk, rfl, hx, hy⟩ := hrel
    have HX := Lib.hid hx
    have HY := Lib.hid hy
    clear hx hy
    by_cases k0 : k = 0
    · subst k0
      by_cases hz : x = 0
      · have b1 : (x != 0) = false := by simp [hz]
        clear hz
        have HZ := Lib.hid b1
        go_wp2
        exact ⟨⟨1, by omega, rfl, fun _ => by simpa using HZ.out, by omega⟩, by simp [intOf]⟩
      · have b1 : (x != 0) = true := by simp [hz]
        have HZ := Lib.hid hz
        clear hz
        go_wp2
        go_ret
        exact ⟨ret_int (by rw [orI_no HZ.out]), rfl⟩
    · by_cases k1 : k = 1
      · subst k1
        have HX0 := Lib.hid (HX.out rfl)
        clear HX HY
        by_cases hz : y = 0
        · have b1 : (y != 0) = false := by simp [hz]
          clear hz
          have HZ := Lib.hid b1
          go_wp2
          exact ⟨⟨2, by omega, rfl, by omega, fun _ => ⟨HX0.out, by simpa using HZ.out⟩⟩, by simp [intOf]⟩
        · have b1 : (y != 0) = true := by simp [hz]
          clear hz
          go_wp2
          go_ret
          exact ⟨ret_int (by rw [orI_yes HX0.out]), rfl⟩
      · obtain rfl : k = 2 := by omega
        have HY0 := Lib.hid (HY.out rfl)
        clear HX HY
        go_wp2
        go_ret
        exact ⟨ret_int (by rw [orI_yes HY0.out.1, HY0.out.2]), rfl⟩

theorem cmp_call (a c : ByteArray) (w : World) : Calls Tryz.prog 163 #[.string a, .string c] w fun e w' => e = .returned (.int .i64 (cmpS a c)) ∧ w' = w := Tryz.strings_Compare a c w

set_option maxRecDepth 100000 in
set_option maxHeartbeats 1000000 in
theorem syn_order (x y : Rl) (w : World) : Calls Tryz.prog 161 #[rv x, rv y] w fun e w' => e = .returned (.int .i64 (cmpR x y)) ∧ Below w.heap.size w w' := by
  obtain ⟨a, b⟩ := x
  obtain ⟨c, d⟩ := y
  go_enter Tryz.func161, Tryz.ntmps161
  go_wp2_with fail
  refine region_tail 10 (by kernel_rfl) (by kernel_rfl) ?_
  simp only [List.take_succ_cons, List.take_zero, List.drop_succ_cons, List.drop_zero]
  repeat still_step
  still_call (cmp_call a c _)
  repeat still_step
  still_call (cmp_call b d _)
  repeat still_step
  refine wpStill_nil ?_
  have E := Lib.hid (show cmpR ⟨a, b⟩ ⟨c, d⟩ = orI (cmpS a c) (cmpS b d) from rfl)
  generalize cmpS a c = p at E ⊢
  generalize cmpS b d = q at E ⊢
  go_wp2_with fail
  refine (cmp_Or2 _ p q _ (by simp [go_sem]) (by simp [go_sem])).mono ?_
  rintro e w' ⟨rfl, rfl⟩
  go_wp2
  go_ret
  exact ⟨ret_int (by rw [E.out]), below_drewN ((((Below.refl _ _).alloc (Nat.le_refl _) _).alloc (by simp) _).alloc (by simp; omega) _) 1⟩

set_option maxHeartbeats 1000000 in
theorem syn_Less (x y : Rl) (w : World) : Calls Tryz.prog 109 #[rv x, rv y] w fun e w' => e = .returned (.bool (lessR x y)) ∧ Below w.heap.size w w' := by
  have E := Lib.hid (show lessR x y = decide (cmpR x y < 0) from rfl)
  obtain ⟨a, b⟩ := x
  obtain ⟨c, d⟩ := y
  go_enter Tryz.func109, Tryz.ntmps109
  go_wp2_with (go_at_call 161; refine (syn_order ⟨a, b⟩ ⟨c, d⟩ _).mono ?_; rintro e w1 ⟨rfl, hb⟩)
  go_ret
  exact ⟨ret_b (by rw [E.out]), (((Below.refl _ _).alloc (Nat.le_refl _) _).alloc (by simp) _).trans (hb.mono (by simp; omega))⟩

theorem syn_PrintRole (r : Rl) (w : World) (hs : r.le 4294967) : Calls Tryz.prog 103 #[rv r] w fun e w' => e = .returned (.string (roleT r)) ∧ Below w.heap.size w w' := by
  obtain ⟨o, n⟩ := r
  obtain ⟨h1, h2⟩ := hs
  dsimp only at h1 h2
  go_enter Tryz.func103, Tryz.ntmps103
  go_wp2
  go_ret
  exact ⟨rfl, (Below.refl _ _).alloc (Nat.le_refl _) _⟩
end Go.Proofs.YtomhekohcadijaaGreatDoor
