/- The package syn: what its small functions return, for every role and statement. -/
import Derived.Test.YtmpanikeeeoikaaSynSpec
import Derived.Test.YtmpanikeeeoikaaNames
import Derived.Test.YtmpanikeeeoikaaShelf
import Derived.StillTailTactics
namespace Go.Proofs.Ytmpanikeeeoikaa
open Go.RowKit Go.Shelf

set_option maxHeartbeats 400000 in
theorem syn_IsRole (r : Rl) (w : World) (hs : r.le 4294967) :
    Calls Try.prog 55 #[rv r] w fun e w' => e = .returned (.bool (isRole r)) ∧ Below w.heap.size w w' := by
  obtain ⟨o, n⟩ := r
  obtain ⟨h1, h2⟩ := hs
  have H1 := Lib.hid (fun W => names_IsPrin o W (by dsimp only at h1; omega))
  have H2 := Lib.hid (fun W => names_IsName n W (by dsimp only at h2; omega))
  clear h1 h2
  have E := Lib.hid (show isRole ⟨o, n⟩ = (isP 65 90 (bl o) && isP 97 122 (bl n)) from rfl)
  cases hp : isP 65 90 (bl o) with
  | true =>
    rw [hp] at E
    go_enter Try.func55, Try.ntmps55
    go_wp2_with (first | (go_at_call 56; refine (H1.out _).mono ?_; rintro e w' ⟨rfl, rfl⟩) | (go_at_call 57; refine (H2.out _).mono ?_; rintro e w' ⟨rfl, rfl⟩))
    go_ret
    exact ⟨ret_b (by rw [E.out]; rfl), (Below.refl _ _).alloc (Nat.le_refl _) _⟩
  | false =>
    rw [hp] at E
    go_enter Try.func55, Try.ntmps55
    go_wp2_with (first | (go_at_call 56; refine (H1.out _).mono ?_; rintro e w' ⟨rfl, rfl⟩) | (go_at_call 57; refine (H2.out _).mono ?_; rintro e w' ⟨rfl, rfl⟩))
    go_ret
    exact ⟨ret_b (by rw [E.out]; rfl), (Below.refl _ _).alloc (Nat.le_refl _) _⟩

/-- The first of two numbers that is not 0. -/
theorem cmp_Or2 (b : Nat) (x y : Int) (w : World) (h0 : w.cell? ⟨b, 0, none⟩ = some (.int .i64 x)) (h1 : w.cell? ⟨b, 1, none⟩ = some (.int .i64 y)) :
    Calls Try.prog 68 #[.slice (some ⟨b, 0, none⟩) 2 2] w fun e w' => e = .returned (.int .i64 (orI x y)) ∧ w = w' := by
  go_enter Try.func68, Try.ntmps68
  go_wp2
  go_loop [8] (fun i => ∃ k : Nat, k ≤ 2 ∧ i = .int .i64 k ∧ (k = 1 → x = 0) ∧ (k = 2 → x = 0 ∧ y = 0)) (fun i => 2 - (intOf i).toNat)
  case atStart => exact ⟨0, by omega, rfl, by omega, by omega⟩
  case round =>
    obtain ⟨k, hk, rfl, hx, hy⟩ := hrel
    have HX := Lib.hid hx
    have HY := Lib.hid hy
    clear hx hy
    by_cases k0 : k = 0
    · subst k0
      by_cases hz : x = 0
      · have b1 : (x != 0) = false := by simp [hz]
        clear hz
        have HZ := Lib.hid b1
        go_wp2
        exact ⟨⟨1, by omega, rfl, fun _ => by simpa using HZ.out, by omega⟩, by simp [intOf]⟩
      · have b1 : (x != 0) = true := by simp [hz]
        have HZ := Lib.hid hz
        clear hz
        go_wp2
        go_ret
        exact ⟨ret_int (by rw [orI_no HZ.out]), rfl⟩
    · by_cases k1 : k = 1
      · subst k1
        have HX0 := Lib.hid (HX.out rfl)
        clear HX HY
        by_cases hz : y = 0
        · have b1 : (y != 0) = false := by simp [hz]
          clear hz
          have HZ := Lib.hid b1
          go_wp2
          exact ⟨⟨2, by omega, rfl, by omega, fun _ => ⟨HX0.out, by simpa using HZ.out⟩⟩, by simp [intOf]⟩
        · have b1 : (y != 0) = true := by simp [hz]
          clear hz
          go_wp2
          go_ret
          exact ⟨ret_int (by rw [orI_yes HX0.out]), rfl⟩
      · obtain rfl : k = 2 := by omega
        have HY0 := Lib.hid (HY.out rfl)
        clear HX HY
        go_wp2
        go_ret
        exact ⟨ret_int (by rw [orI_yes HY0.out.1, HY0.out.2]), rfl⟩

theorem cmp_call (a c : ByteArray) (w : World) : Calls Try.prog 71 #[.string a, .string c] w fun e w' => e = .returned (.int .i64 (cmpS a c)) ∧ w' = w := Try.strings_Compare a c w

set_option maxRecDepth 100000 in
set_option maxHeartbeats 1000000 in
theorem syn_order (x y : Rl) (w : World) : Calls Try.prog 69 #[rv x, rv y] w fun e w' => e = .returned (.int .i64 (cmpR x y)) ∧ Below w.heap.size w w' := by
  obtain ⟨a, b⟩ := x
  obtain ⟨c, d⟩ := y
  go_enter Try.func69, Try.ntmps69
  go_wp2_with fail
  refine region_tail 10 (by kernel_rfl) (by kernel_rfl) ?_
  simp only [List.take_succ_cons, List.take_zero, List.drop_succ_cons, List.drop_zero]
  repeat still_step
  still_call (cmp_call a c _)
  repeat still_step
  still_call (cmp_call b d _)
  repeat still_step
  refine wpStill_nil ?_
  have E := Lib.hid (show cmpR ⟨a, b⟩ ⟨c, d⟩ = orI (cmpS a c) (cmpS b d) from rfl)
  generalize cmpS a c = p at E ⊢
  generalize cmpS b d = q at E ⊢
  go_wp2_with fail
  refine (cmp_Or2 _ p q _ (by simp [go_sem]) (by simp [go_sem])).mono ?_
  rintro e w' ⟨rfl, rfl⟩
  go_wp2
  go_ret
  exact ⟨ret_int (by rw [E.out]), below_drewN ((((Below.refl _ _).alloc (Nat.le_refl _) _).alloc (by simp) _).alloc (by simp; omega) _) 1⟩

set_option maxHeartbeats 1000000 in
theorem syn_Less (x y : Rl) (w : World) : Calls Try.prog 58 #[rv x, rv y] w fun e w' => e = .returned (.bool (lessR x y)) ∧ Below w.heap.size w w' := by
  have E := Lib.hid (show lessR x y = decide (cmpR x y < 0) from rfl)
  obtain ⟨a, b⟩ := x
  obtain ⟨c, d⟩ := y
  go_enter Try.func58, Try.ntmps58
  go_wp2_with (go_at_call 69; refine (syn_order ⟨a, b⟩ ⟨c, d⟩ _).mono ?_; rintro e w1 ⟨rfl, hb⟩)
  go_ret
  exact ⟨ret_b (by rw [E.out]), (((Below.refl _ _).alloc (Nat.le_refl _) _).alloc (by simp) _).trans (hb.mono (by simp; omega))⟩

end Go.Proofs.Ytmpanikeeeoikaa
