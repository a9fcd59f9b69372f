/- The reference of layer 3: what its small functions return, for every role and statement of texts that are not too long. syn.Normal, Print, Roles and the reference's Normal, Print, SameRoles, for every statement of texts that are not too long. The package scan: what its functions return, for every argument. -/
import Derived.Test.YtomhekohcadijaaGreatDoorPartRF3
import Derived.Test.YtomhekohcadijaaGreatDoorPartRF5
import Derived.Test.YtomhekohcadijaaGreatDoorPartRF1
import Derived.Deep.RegionWith
import Derived.Test.YtomhekohcadijaaGreatDoorPartRF2
import Derived.Test.YtomhekohcadijaaGreatDoorPartRF4
import Derived.Test.YtomhekohcadijaaGreatDoorShelf
namespace Go.Proofs.YtomhekohcadijaaGreatDoor
open Go.RowKit Go.Shelf

end Go.Proofs.YtomhekohcadijaaGreatDoor
namespace Go.Proofs.YtomhekohcadijaaGreatDoor
open Go.RowKit Go.Shelf

theorem normal_no (k : Int) (h : Rl) (who : ByteArray) (a b : Rl) (via : ByteArray) (h4 : ¬ k = 4) : normalS ⟨k, h, who, a, b, via⟩ = ⟨k, h, who, a, b, via⟩ := by
  unfold normalS; rw [if_neg (fun x => h4 x.1)]
theorem normal_same (h : Rl) (who : ByteArray) (a b : Rl) (via : ByteArray) (hl : lessR b a = false) : normalS ⟨4, h, who, a, b, via⟩ = ⟨4, h, who, a, b, via⟩ := by
  unfold normalS; rw [if_neg (fun x => by rw [hl] at x; cases x.2)]
theorem normal_swap (h : Rl) (who : ByteArray) (a b : Rl) (via : ByteArray) (hl : lessR b a = true) : normalS ⟨4, h, who, a, b, via⟩ = ⟨4, h, who, b, a, via⟩ := by
  unfold normalS; rw [if_pos ⟨rfl, hl⟩]

set_option maxRecDepth 100000 in
set_option maxHeartbeats 4000000 in
theorem syn_Normal (s : St) (w : World) :
    Calls Tryz.prog 159 #[sv s] w fun e w' => e = .returned (sv (normalS s)) ∧ Below w.heap.size w w' := by
  obtain ⟨k, ⟨h1, h2⟩, who, ⟨a1, a2⟩, ⟨b1, b2⟩, via⟩ := s
  by_cases k4 : k = 4
  · subst k4
    cases hl : lessR ⟨b1, b2⟩ ⟨a1, a2⟩ with
    | true =>
      have R := Lib.hid (normal_swap ⟨h1, h2⟩ who ⟨a1, a2⟩ ⟨b1, b2⟩ via hl)
      have HL := Lib.hid hl
      clear hl
      go_enter Tryz.func159, Tryz.ntmps159
      go_wp2_with (go_at_call 109; refine (syn_Less ⟨b1, b2⟩ ⟨a1, a2⟩ _).mono ?_; rw [HL.out]; rintro e w1 ⟨rfl, hb⟩; obtain ⟨⟨ca, fa, za⟩, ⟨cb, fb, zb⟩⟩ := keep2 hb)
      refine bodyPost_ret (v := sv ⟨4, ⟨h1, h2⟩, who, ⟨b1, b2⟩, ⟨a1, a2⟩, via⟩) (by simp [results, Tryz.results159, go_sem, cb]) rfl ⟨by rw [R.out], ?_⟩
      (repeat' (first | with_reducible exact Below.refl _ _ | with_reducible (refine Below.setCell ?_ ?_ _) | with_reducible (refine Below.alloc ?_ ?_ _) | with_reducible (refine below_drew ?_) | with_reducible (refine below_drewN ?_ _) | with_reducible (refine Below.trans ?_ (Below.mono (by assumption) ?_)) | omega | (simp; done) | (simp; omega)))
    | false =>
      have R := Lib.hid (normal_same ⟨h1, h2⟩ who ⟨a1, a2⟩ ⟨b1, b2⟩ via hl)
      have HL := Lib.hid hl
      clear hl
      go_enter Tryz.func159, Tryz.ntmps159
      go_wp2_with (go_at_call 109; refine (syn_Less ⟨b1, b2⟩ ⟨a1, a2⟩ _).mono ?_; rw [HL.out]; rintro e w1 ⟨rfl, hb⟩; obtain ⟨⟨ca, fa, za⟩, ⟨cb, fb, zb⟩⟩ := keep2 hb)
      refine bodyPost_ret (v := sv ⟨4, ⟨h1, h2⟩, who, ⟨a1, a2⟩, ⟨b1, b2⟩, via⟩) (by simp [results, Tryz.results159, go_sem, cb]) rfl ⟨by rw [R.out], ?_⟩
      (repeat' (first | with_reducible exact Below.refl _ _ | with_reducible (refine Below.setCell ?_ ?_ _) | with_reducible (refine Below.alloc ?_ ?_ _) | with_reducible (refine below_drew ?_) | with_reducible (refine below_drewN ?_ _) | with_reducible (refine Below.trans ?_ (Below.mono (by assumption) ?_)) | omega | (simp; done) | (simp; omega)))
  · have R := Lib.hid (normal_no k ⟨h1, h2⟩ who ⟨a1, a2⟩ ⟨b1, b2⟩ via k4)
    have q4 : (k == 4) = false := by rw [beq_eq_false_iff_ne]; exact k4
    clear k4
    go_enter Tryz.func159, Tryz.ntmps159
    go_wp2
    refine bodyPost_ret (v := sv ⟨k, ⟨h1, h2⟩, who, ⟨a1, a2⟩, ⟨b1, b2⟩, via⟩) (by simp [results, Tryz.results159, go_sem]) rfl ⟨by rw [R.out], ?_⟩
    (repeat' (first | with_reducible exact Below.refl _ _ | with_reducible (refine Below.setCell ?_ ?_ _) | with_reducible (refine Below.alloc ?_ ?_ _) | with_reducible (refine below_drew ?_) | with_reducible (refine below_drewN ?_ _) | with_reducible (refine Below.trans ?_ (Below.mono (by assumption) ?_)) | omega | (simp; done) | (simp; omega)))

theorem printS_no (s : St) (h : rightS s = false) : printS s = emp := by unfold printS; rw [h]; rfl
theorem printS1 (h : Rl) (who : ByteArray) (a b : Rl) (via : ByteArray) (hr : rightS ⟨1, h, who, a, b, via⟩ = true) : printS ⟨1, h, who, a, b, via⟩ = roleT h ++ ⟨#[32, 60, 45, 32]⟩ ++ who := by unfold printS; rw [hr]; rfl
theorem printS2 (h : Rl) (who : ByteArray) (a b : Rl) (via : ByteArray) (hr : rightS ⟨2, h, who, a, b, via⟩ = true) : printS ⟨2, h, who, a, b, via⟩ = roleT h ++ ⟨#[32, 60, 45, 32]⟩ ++ roleT a := by unfold printS; rw [hr]; rfl
theorem printS3 (h : Rl) (who : ByteArray) (a b : Rl) (via : ByteArray) (hr : rightS ⟨3, h, who, a, b, via⟩ = true) : printS ⟨3, h, who, a, b, via⟩ = roleT h ++ ⟨#[32, 60, 45, 32]⟩ ++ (roleT a ++ ⟨#[46]⟩ ++ via) := by unfold printS; rw [hr]; rfl
theorem printS4 (h : Rl) (who : ByteArray) (a b : Rl) (via : ByteArray) (hr : rightS ⟨4, h, who, a, b, via⟩ = true) : printS ⟨4, h, who, a, b, via⟩ = roleT h ++ ⟨#[32, 60, 45, 32]⟩ ++ (roleT a ++ ⟨#[32, 38, 32]⟩ ++ roleT b) := by unfold printS; rw [hr]; rfl
theorem roleT_size (r : Rl) : (roleT r).size = r.o.size + 1 + r.n.size := by simp [roleT, ByteArray.size_append]; rfl
theorem roleT_le (r : Rl) (h : r.le 4294967) : (roleT r).size ≤ 8600000 := by rw [roleT_size]; have := h.1; have := h.2; omega
theorem app_assoc (a b c : ByteArray) : a ++ b ++ c = a ++ (b ++ c) := by
  obtain ⟨⟨x⟩⟩ := a; obtain ⟨⟨y⟩⟩ := b; obtain ⟨⟨z⟩⟩ := c
  apply bl_inj.1
  rw [bl_append, bl_append, bl_append, bl_append, List.append_assoc]

set_option maxRecDepth 100000 in
set_option maxHeartbeats 4000000 in
theorem syn_Print (s : St) (w : World) (hs : s.le 4294967) :
    Calls Tryz.prog 82 #[sv s] w fun e w' => e = .returned (.string (printS s)) ∧ Below w.heap.size w w' := by
  have hle := Lib.hid hs
  clear hs
  cases hr : rightS s with
  | false =>
    have R := Lib.hid (printS_no s hr)
    have HR := Lib.hid hr
    obtain ⟨k, ⟨h1, h2⟩, who, ⟨a1, a2⟩, ⟨b1, b2⟩, via⟩ := s
    clear hr
    go_enter Tryz.func82, Tryz.ntmps82
    go_wp2_with (go_at_call 114; refine (syn_Right ⟨k, ⟨h1, h2⟩, who, ⟨a1, a2⟩, ⟨b1, b2⟩, via⟩ _ hle.out).mono ?_; rw [HR.out]; rintro e w1 ⟨rfl, hb⟩)
    go_ret
    refine ⟨ret_s (by rw [R.out]), ((Below.refl _ _).alloc (Nat.le_refl _) _).trans (hb.mono (by simp))⟩
  | true =>
    obtain ⟨k, ⟨h1, h2⟩, who, ⟨a1, a2⟩, ⟨b1, b2⟩, via⟩ := s
    have hTh := roleT_le ⟨h1, h2⟩ hle.out.1
    have hTa := roleT_le ⟨a1, a2⟩ hle.out.2.2.1
    have hTb := roleT_le ⟨b1, b2⟩ hle.out.2.2.2.1
    have hwho : who.size ≤ 4294967 := hle.out.2.1
    have hvia : via.size ≤ 4294967 := hle.out.2.2.2.2
    by_cases k3 : k = 3
    · subst k3
      have R := Lib.hid (printS3 ⟨h1, h2⟩ who ⟨a1, a2⟩ ⟨b1, b2⟩ via hr)
      have HR := Lib.hid hr
      clear hr
      go_enter Tryz.func82, Tryz.ntmps82
      go_wp2_with (first | (go_at_call 114; refine (syn_Right ⟨3, ⟨h1, h2⟩, who, ⟨a1, a2⟩, ⟨b1, b2⟩, via⟩ _ hle.out).mono ?_; rw [HR.out]; rintro e w1 ⟨rfl, hb⟩; obtain ⟨ca, fa, za⟩ := keep1 hb) | (go_at_call_of 103 (Value.agg #[.string h1, .string h2]); refine (syn_PrintRole ⟨h1, h2⟩ _ hle.out.1).mono ?_; rintro e w2 ⟨rfl, hb2⟩; obtain ⟨ca2, fa2, za2⟩ := Blk.below ⟨ca, fa, za⟩ hb2))
      have hnr := Blk.near ⟨ca2, fa2, za2⟩
      refine region_near (by kernel_rfl) (by kernel_rfl) ?_
      repeat (go_big_quiet_step ((first | (go_at_call_of 103 (Value.agg #[.string a1, .string a2]); exact Calls.near (syn_PrintRole ⟨a1, a2⟩ _ hle.out.2.2.1)) | (go_at_call_of 103 (Value.agg #[.string b1, .string b2]); exact Calls.near (syn_PrintRole ⟨b1, b2⟩ _ hle.out.2.2.2.1)))))
      refine wpQuiet_nil ?_
      rintro w3 ⟨⟨w3, hb3⟩, rfl⟩
      go_wp2
      go_ret
      refine ⟨ret_s (by rw [R.out]; simp only [app_assoc]), ?_⟩
      (repeat' (first | with_reducible exact Below.refl _ _ | with_reducible (refine Below.setCell ?_ ?_ _) | with_reducible (refine Below.alloc ?_ ?_ _) | with_reducible (refine below_drew ?_) | with_reducible (refine below_drewN ?_ _) | with_reducible (refine Below.trans ?_ (Below.mono (by assumption) ?_)) | omega | (simp; done) | (simp; omega)))
    by_cases k4 : k = 4
    · subst k4
      have R := Lib.hid (printS4 ⟨h1, h2⟩ who ⟨a1, a2⟩ ⟨b1, b2⟩ via hr)
      have HR := Lib.hid hr
      clear hr
      go_enter Tryz.func82, Tryz.ntmps82
      go_wp2_with (first | (go_at_call 114; refine (syn_Right ⟨4, ⟨h1, h2⟩, who, ⟨a1, a2⟩, ⟨b1, b2⟩, via⟩ _ hle.out).mono ?_; rw [HR.out]; rintro e w1 ⟨rfl, hb⟩; obtain ⟨ca, fa, za⟩ := keep1 hb) | (go_at_call_of 103 (Value.agg #[.string h1, .string h2]); refine (syn_PrintRole ⟨h1, h2⟩ _ hle.out.1).mono ?_; rintro e w2 ⟨rfl, hb2⟩; obtain ⟨ca2, fa2, za2⟩ := Blk.below ⟨ca, fa, za⟩ hb2))
      have hnr := Blk.near ⟨ca2, fa2, za2⟩
      refine region_near (by kernel_rfl) (by kernel_rfl) ?_
      repeat (go_big_quiet_step ((first | (go_at_call_of 103 (Value.agg #[.string a1, .string a2]); exact Calls.near (syn_PrintRole ⟨a1, a2⟩ _ hle.out.2.2.1)) | (go_at_call_of 103 (Value.agg #[.string b1, .string b2]); exact Calls.near (syn_PrintRole ⟨b1, b2⟩ _ hle.out.2.2.2.1)))))
      refine wpQuiet_nil ?_
      rintro w3 ⟨⟨w3, hb3⟩, rfl⟩
      go_wp2
      go_ret
      refine ⟨ret_s (by rw [R.out]; simp only [app_assoc]), ?_⟩
      (repeat' (first | with_reducible exact Below.refl _ _ | with_reducible (refine Below.setCell ?_ ?_ _) | with_reducible (refine Below.alloc ?_ ?_ _) | with_reducible (refine below_drew ?_) | with_reducible (refine below_drewN ?_ _) | with_reducible (refine Below.trans ?_ (Below.mono (by assumption) ?_)) | omega | (simp; done) | (simp; omega)))
    by_cases k2 : k = 2
    · subst k2
      have R := Lib.hid (printS2 ⟨h1, h2⟩ who ⟨a1, a2⟩ ⟨b1, b2⟩ via hr)
      have HR := Lib.hid hr
      clear hr
      go_enter Tryz.func82, Tryz.ntmps82
      go_wp2_with (first | (go_at_call 114; refine (syn_Right ⟨2, ⟨h1, h2⟩, who, ⟨a1, a2⟩, ⟨b1, b2⟩, via⟩ _ hle.out).mono ?_; rw [HR.out]; rintro e w1 ⟨rfl, hb⟩; obtain ⟨ca, fa, za⟩ := keep1 hb) | (go_at_call_of 103 (Value.agg #[.string h1, .string h2]); refine (syn_PrintRole ⟨h1, h2⟩ _ hle.out.1).mono ?_; rintro e w2 ⟨rfl, hb2⟩; obtain ⟨ca2, fa2, za2⟩ := Blk.below ⟨ca, fa, za⟩ hb2) | (go_at_call_of 103 (Value.agg #[.string a1, .string a2]); refine (syn_PrintRole ⟨a1, a2⟩ _ hle.out.2.2.1).mono ?_; rintro e w3 ⟨rfl, hb3⟩))
      go_ret
      refine ⟨ret_s (by rw [R.out]), ?_⟩
      (repeat' (first | with_reducible exact Below.refl _ _ | with_reducible (refine Below.setCell ?_ ?_ _) | with_reducible (refine Below.alloc ?_ ?_ _) | with_reducible (refine below_drew ?_) | with_reducible (refine below_drewN ?_ _) | with_reducible (refine Below.trans ?_ (Below.mono (by assumption) ?_)) | omega | (simp; done) | (simp; omega)))
    by_cases k1 : k = 1
    · subst k1
      have R := Lib.hid (printS1 ⟨h1, h2⟩ who ⟨a1, a2⟩ ⟨b1, b2⟩ via hr)
      have HR := Lib.hid hr
      clear hr
      go_enter Tryz.func82, Tryz.ntmps82
      go_wp2_with (first | (go_at_call 114; refine (syn_Right ⟨1, ⟨h1, h2⟩, who, ⟨a1, a2⟩, ⟨b1, b2⟩, via⟩ _ hle.out).mono ?_; rw [HR.out]; rintro e w1 ⟨rfl, hb⟩; obtain ⟨ca, fa, za⟩ := keep1 hb) | (go_at_call_of 103 (Value.agg #[.string h1, .string h2]); refine (syn_PrintRole ⟨h1, h2⟩ _ hle.out.1).mono ?_; rintro e w2 ⟨rfl, hb2⟩; obtain ⟨ca2, fa2, za2⟩ := Blk.below ⟨ca, fa, za⟩ hb2))
      go_ret
      refine ⟨ret_s (by rw [R.out]), ?_⟩
      (repeat' (first | with_reducible exact Below.refl _ _ | with_reducible (refine Below.setCell ?_ ?_ _) | with_reducible (refine Below.alloc ?_ ?_ _) | with_reducible (refine below_drew ?_) | with_reducible (refine below_drewN ?_ _) | with_reducible (refine Below.trans ?_ (Below.mono (by assumption) ?_)) | omega | (simp; done) | (simp; omega)))
    rw [rightS0 k _ _ _ _ _ k1 k2 k3 k4] at hr
    cases hr
end Go.Proofs.YtomhekohcadijaaGreatDoor
namespace Go.Proofs.YtomhekohcadijaaGreatDoor
open Go.RowKit Go.Shelf

theorem scan_bare (s : ByteArray) (w : World) (hs : s.size < 4294967281) (hg : Gl w) :
    Calls Tryz.prog 179 #[.string s] w fun e w' => e = .returned (.string ⟨(bare (bl s)).toArray⟩) ∧ ∃ n, w' = w.drewN n := by
  obtain ⟨m, hm⟩ := hg
  have hcon := Tryz.strings_Cut s ⟨#[35]⟩ m w hs hm
  rw [show (⟨#[35]⟩ : ByteArray).data.toList = [35] from rfl, cut_bare] at hcon
  generalize (Lib.cut s.data.toList [35]).2.1 = x at hcon
  generalize (Lib.cut s.data.toList [35]).2.2 = y at hcon
  generalize bare (bl s) = r at hcon ⊢
  have H := Lib.hid hcon
  clear hcon hm
  go_enter Tryz.func179, Tryz.ntmps179
  go_wp2_with (go_at_call 91; refine H.out.mono ?_; rintro e w' ⟨rfl, n, rfl⟩)
  go_ret
  exact ⟨rfl, n, rfl⟩

set_option maxHeartbeats 400000 in
theorem scan_word (s : ByteArray) (a : Nat) (w : World) (hs : s.size ≤ 9223372036854775) (ha : a ≤ s.size) :
    Calls Tryz.prog 237 #[.string s, .int .i64 a] w fun e w' => e = .returned (.int .i64 (wordOf ((bl s).drop a)).length) ∧ w = w' := by
  go_enter Tryz.func237, Tryz.ntmps237
  go_wp2
  go_loop [5] (fun i => ∃ k : Nat, a + k ≤ s.size ∧ i = .int .i64 k ∧ ∀ c ∈ ((bl s).drop a).take k, alnum c = true) (fun i => s.size - (intOf i).toNat)
  case atStart => exact ⟨0, by omega, rfl, by simp⟩
  case round =>
    obtain ⟨k, hk, rfl, hal⟩ := hrel
    have HA := Lib.hid hal
    clear hal
    have hlen : k ≤ ((bl s).drop a).length := by rw [List.length_drop, bl_len]; omega
    by_cases hlt : a + k < s.size
    · have hc := bl_at s a k hlt
      have hb := bl_A s (a + k) hlt
      have HC := Lib.hid (names_IsPrin ({ data := #[65] } ++ s.extract (a + k) (a + k + 1)) w (by rw [size_A s _ hlt]; omega))
      cases hx : alnum s[a + k] with
      | true =>
        have HM := Lib.hid (word_more _ _ _ HA.out hc hx)
        have HB := Lib.hid ((congrArg (isP 65 90) hb).trans ((isP_A _).trans hx))
        clear hc hb hx hlen
        go_wp2_with (go_at_call 164; refine HC.out.mono ?_; rw [HB.out]; rintro e w' ⟨rfl, rfl⟩)
        exact ⟨⟨k + 1, by omega, by go_num, HM.out⟩, by simp [intOf]; omega⟩
      | false =>
        have HM := Lib.hid (word_stop _ _ HA.out hlen (fun c h => by rw [hc] at h; cases h; exact hx))
        have HB := Lib.hid ((congrArg (isP 65 90) hb).trans ((isP_A _).trans hx))
        clear hc hb hx hlen
        go_wp2_with (go_at_call 164; refine HC.out.mono ?_; rw [HB.out]; rintro e w' ⟨rfl, rfl⟩)
        go_ret
        exact ⟨ret_int (by rw [HM.out]), rfl⟩
    · have HM := Lib.hid (word_stop _ _ HA.out hlen (fun _ h => by rw [bl_at_end s a k hlt] at h; cases h))
      clear hlen
      go_wp2
      go_ret
      exact ⟨ret_int (by rw [HM.out]), rfl⟩


set_option maxHeartbeats 1000000 in
theorem scan_one (s : ByteArray) (a : Nat) (w : World) (hs : s.size ≤ 9223372036854775) (ha : a < s.size) :
    Calls Tryz.prog 180 #[.string s, .int .i64 a] w fun e w' => e = .returned (.agg (oneTok ((bl s).drop a) a).cells.toArray) ∧ Below w.heap.size w w' := by
  have hd := bl_drop s a ha
  have HP := Lib.hid (fun W => Tryz.strings_HasPrefix (s.extract a s.size) ⟨#[60, 45]⟩ W)
  have HW := Lib.hid (fun W => scan_word s a W hs (by omega))
  have h0 : 0 ≤ (s[a].toNat : Int) := by omega
  have HX := Lib.hid (str_eq (bl_one s a ha))
  by_cases h46 : s[a].toNat = 46
  · have e : (oneTok ((bl s).drop a) a) = ⟨3, [s[a]], a + 1⟩ := by rw [hd]; simp [oneTok, h46]
    have b46 : ((s[a].toNat : Int) == 46) = true := by rw [beq_iff_eq]; omega
    have E := Lib.hid e
    clear e hd h46
    go_enter Tryz.func180, Tryz.ntmps180
    go_wp2_with fail
    refine bodyPost_ret (v := .agg #[.int .i64 3, .string (s.extract a (a + 1)), .int .i64 (a + 1)]) (by simp [results, Tryz.results180, go_sem]) rfl ⟨?_, ?_⟩
    · rw [E.out, HX.out]; rfl
    · exact ((Below.refl _ _).alloc (Nat.le_refl _) _).alloc (by simp) _
  · have b46 : ((s[a].toNat : Int) == 46) = false := by rw [beq_eq_false_iff_ne]; omega
    by_cases h38 : s[a].toNat = 38
    · have e : (oneTok ((bl s).drop a) a) = ⟨5, [s[a]], a + 1⟩ := by rw [hd]; simp [oneTok, h38]
      have b38 : ((s[a].toNat : Int) == 38) = true := by rw [beq_iff_eq]; omega
      have E := Lib.hid e
      clear e hd h46 h38
      go_enter Tryz.func180, Tryz.ntmps180
      go_wp2_with fail
      refine bodyPost_ret (v := .agg #[.int .i64 5, .string (s.extract a (a + 1)), .int .i64 (a + 1)]) (by simp [results, Tryz.results180, go_sem]) rfl ⟨?_, ?_⟩
      · rw [E.out, HX.out]; rfl
      · exact ((Below.refl _ _).alloc (Nat.le_refl _) _).alloc (by simp) _
    · have b38 : ((s[a].toNat : Int) == 38) = false := by rw [beq_eq_false_iff_ne]; omega
      cases hp : Lib.hasPrefix (s.extract a s.size).data.toList [60, 45] with
      | true =>
        have hp' : [60, 45].isPrefixOf ((bl s).drop a) = true := by rw [← ssub s a]; exact hp
        have e : (oneTok ((bl s).drop a) a) = ⟨4, [60, 45], a + 1⟩ := by rw [hd] at hp' ⊢; simp only [oneTok, h46, h38, hp', if_false, if_true]
        have E := Lib.hid e
        have HH := Lib.hid hp
        clear e hd h46 h38 hp hp'
        go_enter Tryz.func180, Tryz.ntmps180
        go_wp2_with (go_at_call 236; refine (HP.out _).mono ?_; rw [show Lib.hasPrefix (s.extract a s.size).data.toList (⟨#[60, 45]⟩ : ByteArray).data.toList = true from HH.out]; rintro e w' ⟨rfl, rfl⟩)
        refine bodyPost_ret (v := .agg #[.int .i64 4, .string ⟨#[60, 45]⟩, .int .i64 (a + 1)]) (by simp [results, Tryz.results180, go_sem]) rfl ⟨?_, ?_⟩
        · rw [E.out]; rfl
        · exact ((Below.refl _ _).alloc (Nat.le_refl _) _).alloc (by simp) _
      | false =>
        have hp' : [60, 45].isPrefixOf ((bl s).drop a) = false := by rw [← ssub s a]; exact hp
        have HL := sword_le s a (by omega)
        have HS := Lib.hid (str_eq (sword s a))
        have HH := Lib.hid hp
        by_cases hb : 65 ≤ (s[a].toNat : Int) ∧ (s[a].toNat : Int) ≤ 90
        · obtain ⟨hb1, hb2⟩ := hb
          have e : (oneTok ((bl s).drop a) a) = ⟨1, wordOf ((bl s).drop a), a + 1⟩ := by
            have hbt : btw s[a].toNat 65 90 = true := by simp [btw]; omega
            rw [hd] at hp' ⊢; simp only [oneTok, h46, h38, hp', hbt, if_false, if_true]; rfl
          have E := Lib.hid e
          clear e hd h46 h38 hp hp'
          generalize hn : (wordOf ((bl s).drop a)).length = n at HW HL HS
          clear hn
          go_enter Tryz.func180, Tryz.ntmps180
          go_wp2_with (first | (go_at_call 236; refine (HP.out _).mono ?_; rw [show Lib.hasPrefix (s.extract a s.size).data.toList (⟨#[60, 45]⟩ : ByteArray).data.toList = false from HH.out]; rintro e w' ⟨rfl, rfl⟩) | (go_at_call 237; refine (HW.out _).mono ?_; rintro e w' ⟨rfl, rfl⟩))
          refine bodyPost_ret (v := .agg #[.int .i64 1, .string (s.extract a (a + n)), .int .i64 (a + 1)]) (by simp [results, Tryz.results180, go_sem]) rfl ⟨?_, ?_⟩
          · rw [E.out, HS.out]; rfl
          · exact ((Below.refl _ _).alloc (Nat.le_refl _) _).alloc (by simp) _
        · have hbt : btw s[a].toNat 65 90 = false := by simp [btw]; omega
          have hnb : 65 ≤ (s[a].toNat : Int) → 90 < (s[a].toNat : Int) := by omega
          by_cases hc : 97 ≤ (s[a].toNat : Int) ∧ (s[a].toNat : Int) ≤ 122
          · obtain ⟨hc1, hc2⟩ := hc
            have hb1 : 65 ≤ (s[a].toNat : Int) := by omega
            have hb2 : 90 < (s[a].toNat : Int) := by omega
            have e : (oneTok ((bl s).drop a) a) = ⟨2, wordOf ((bl s).drop a), a + 1⟩ := by
              have hct : btw s[a].toNat 97 122 = true := by simp [btw]; omega
              rw [hd] at hp' ⊢; simp only [oneTok, h46, h38, hp', hbt, hct, if_false, if_true]; rfl
            have E := Lib.hid e
            clear e hd h46 h38 hp hp' hbt hnb
            generalize hn : (wordOf ((bl s).drop a)).length = n at HW HL HS
            clear hn
            go_enter Tryz.func180, Tryz.ntmps180
            go_wp2_with (first | (go_at_call 236; refine (HP.out _).mono ?_; rw [show Lib.hasPrefix (s.extract a s.size).data.toList (⟨#[60, 45]⟩ : ByteArray).data.toList = false from HH.out]; rintro e w' ⟨rfl, rfl⟩) | (go_at_call 237; refine (HW.out _).mono ?_; rintro e w' ⟨rfl, rfl⟩))
            refine bodyPost_ret (v := .agg #[.int .i64 2, .string (s.extract a (a + n)), .int .i64 (a + 1)]) (by simp [results, Tryz.results180, go_sem]; decide) rfl ⟨?_, ?_⟩
            · rw [E.out, HS.out]; rfl
            · exact ((Below.refl _ _).alloc (Nat.le_refl _) _).alloc (by simp) _
          · have e : (oneTok ((bl s).drop a) a) = ⟨0, [s[a]], a + 1⟩ := by
              have hct : btw s[a].toNat 97 122 = false := by simp [btw]; omega
              rw [hd] at hp' ⊢; simp only [oneTok, h46, h38, hp', hbt, hct, if_false, Bool.false_eq_true]
            have E := Lib.hid e
            clear e hd h46 h38 hp hp' hbt
            by_cases hb1 : 65 ≤ (s[a].toNat : Int)
            · have hb2 := hnb hb1
              clear hnb
              by_cases hc1 : 97 ≤ (s[a].toNat : Int)
              · have hc2 : 122 < (s[a].toNat : Int) := by omega
                clear hc
                go_enter Tryz.func180, Tryz.ntmps180
                go_wp2_with (first | (go_at_call 236; refine (HP.out _).mono ?_; rw [show Lib.hasPrefix (s.extract a s.size).data.toList (⟨#[60, 45]⟩ : ByteArray).data.toList = false from HH.out]; rintro e w' ⟨rfl, rfl⟩) | (go_at_call 237; refine (HW.out _).mono ?_; rintro e w' ⟨rfl, rfl⟩))
                refine bodyPost_ret (v := .agg #[.int .i64 0, .string (s.extract a (a + 1)), .int .i64 (a + 1)]) (by simp [results, Tryz.results180, go_sem]) rfl ⟨?_, ?_⟩
                · rw [E.out, HX.out]; rfl
                · exact ((Below.refl _ _).alloc (Nat.le_refl _) _).alloc (by simp) _
              · clear hc
                go_enter Tryz.func180, Tryz.ntmps180
                go_wp2_with (first | (go_at_call 236; refine (HP.out _).mono ?_; rw [show Lib.hasPrefix (s.extract a s.size).data.toList (⟨#[60, 45]⟩ : ByteArray).data.toList = false from HH.out]; rintro e w' ⟨rfl, rfl⟩) | (go_at_call 237; refine (HW.out _).mono ?_; rintro e w' ⟨rfl, rfl⟩))
                refine bodyPost_ret (v := .agg #[.int .i64 0, .string (s.extract a (a + 1)), .int .i64 (a + 1)]) (by simp [results, Tryz.results180, go_sem]) rfl ⟨?_, ?_⟩
                · rw [E.out, HX.out]; rfl
                · exact ((Below.refl _ _).alloc (Nat.le_refl _) _).alloc (by simp) _
            · have hc1 : ¬ 97 ≤ (s[a].toNat : Int) := by omega
              clear hnb hc
              go_enter Tryz.func180, Tryz.ntmps180
              go_wp2_with (first | (go_at_call 236; refine (HP.out _).mono ?_; rw [show Lib.hasPrefix (s.extract a s.size).data.toList (⟨#[60, 45]⟩ : ByteArray).data.toList = false from HH.out]; rintro e w' ⟨rfl, rfl⟩) | (go_at_call 237; refine (HW.out _).mono ?_; rintro e w' ⟨rfl, rfl⟩))
              refine bodyPost_ret (v := .agg #[.int .i64 0, .string (s.extract a (a + 1)), .int .i64 (a + 1)]) (by simp [results, Tryz.results180, go_sem]) rfl ⟨?_, ?_⟩
              · rw [E.out, HX.out]; rfl
              · exact ((Below.refl _ _).alloc (Nat.le_refl _) _).alloc (by simp) _
end Go.Proofs.YtomhekohcadijaaGreatDoor
