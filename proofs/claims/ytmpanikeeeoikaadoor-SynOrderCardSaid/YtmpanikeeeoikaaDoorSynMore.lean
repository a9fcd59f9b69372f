/- syn.Normal, Print, Roles and the reference's Normal, Print, SameRoles, for every statement of texts that are not too long. -/
import Derived.Test.YtmpanikeeeoikaaDoorRef03
import Derived.Test.YtmpanikeeeoikaaDoorPlain2
import Derived.Deep.RegionWith
namespace Go.Proofs.YtmpanikeeeoikaaDoor
open Go.RowKit Go.Shelf

theorem normal_no (k : Int) (h : Rl) (who : ByteArray) (a b : Rl) (via : ByteArray) (h4 : ¬ k = 4) : normalS ⟨k, h, who, a, b, via⟩ = ⟨k, h, who, a, b, via⟩ := by
  unfold normalS; rw [if_neg (fun x => h4 x.1)]
theorem normal_same (h : Rl) (who : ByteArray) (a b : Rl) (via : ByteArray) (hl : lessR b a = false) : normalS ⟨4, h, who, a, b, via⟩ = ⟨4, h, who, a, b, via⟩ := by
  unfold normalS; rw [if_neg (fun x => by rw [hl] at x; cases x.2)]
theorem normal_swap (h : Rl) (who : ByteArray) (a b : Rl) (via : ByteArray) (hl : lessR b a = true) : normalS ⟨4, h, who, a, b, via⟩ = ⟨4, h, who, b, a, via⟩ := by
  unfold normalS; rw [if_pos ⟨rfl, hl⟩]

set_option maxRecDepth 100000 in
set_option maxHeartbeats 4000000 in
theorem syn_Normal (s : St) (w : World) :
    Calls Tryd.prog 31 #[sv s] w fun e w' => e = .returned (sv (normalS s)) ∧ Below w.heap.size w w' := by
  obtain ⟨k, ⟨h1, h2⟩, who, ⟨a1, a2⟩, ⟨b1, b2⟩, via⟩ := s
  by_cases k4 : k = 4
  · subst k4
    cases hl : lessR ⟨b1, b2⟩ ⟨a1, a2⟩ with
    | true =>
      have R := Lib.hid (normal_swap ⟨h1, h2⟩ who ⟨a1, a2⟩ ⟨b1, b2⟩ via hl)
      have HL := Lib.hid hl
      clear hl
      go_enter Tryd.func31, Tryd.ntmps31
      go_wp2_with (go_at_call 8; refine (syn_Less ⟨b1, b2⟩ ⟨a1, a2⟩ _).mono ?_; rw [HL.out]; rintro e w1 ⟨rfl, hb⟩; obtain ⟨⟨ca, fa, za⟩, ⟨cb, fb, zb⟩⟩ := keep2 hb)
      refine bodyPost_ret (v := sv ⟨4, ⟨h1, h2⟩, who, ⟨b1, b2⟩, ⟨a1, a2⟩, via⟩) (by simp [results, Tryd.results31, go_sem, cb]) rfl ⟨by rw [R.out], ?_⟩
      (repeat' (first | with_reducible exact Below.refl _ _ | with_reducible (refine Below.setCell ?_ ?_ _) | with_reducible (refine Below.alloc ?_ ?_ _) | with_reducible (refine below_drew ?_) | with_reducible (refine below_drewN ?_ _) | with_reducible (refine Below.trans ?_ (Below.mono (by assumption) ?_)) | omega | (simp; done) | (simp; omega)))
    | false =>
      have R := Lib.hid (normal_same ⟨h1, h2⟩ who ⟨a1, a2⟩ ⟨b1, b2⟩ via hl)
      have HL := Lib.hid hl
      clear hl
      go_enter Tryd.func31, Tryd.ntmps31
      go_wp2_with (go_at_call 8; refine (syn_Less ⟨b1, b2⟩ ⟨a1, a2⟩ _).mono ?_; rw [HL.out]; rintro e w1 ⟨rfl, hb⟩; obtain ⟨⟨ca, fa, za⟩, ⟨cb, fb, zb⟩⟩ := keep2 hb)
      refine bodyPost_ret (v := sv ⟨4, ⟨h1, h2⟩, who, ⟨a1, a2⟩, ⟨b1, b2⟩, via⟩) (by simp [results, Tryd.results31, go_sem, cb]) rfl ⟨by rw [R.out], ?_⟩
      (repeat' (first | with_reducible exact Below.refl _ _ | with_reducible (refine Below.setCell ?_ ?_ _) | with_reducible (refine Below.alloc ?_ ?_ _) | with_reducible (refine below_drew ?_) | with_reducible (refine below_drewN ?_ _) | with_reducible (refine Below.trans ?_ (Below.mono (by assumption) ?_)) | omega | (simp; done) | (simp; omega)))
  · have R := Lib.hid (normal_no k ⟨h1, h2⟩ who ⟨a1, a2⟩ ⟨b1, b2⟩ via k4)
    have q4 : (k == 4) = false := by rw [beq_eq_false_iff_ne]; exact k4
    clear k4
    go_enter Tryd.func31, Tryd.ntmps31
    go_wp2
    refine bodyPost_ret (v := sv ⟨k, ⟨h1, h2⟩, who, ⟨a1, a2⟩, ⟨b1, b2⟩, via⟩) (by simp [results, Tryd.results31, go_sem]) rfl ⟨by rw [R.out], ?_⟩
    (repeat' (first | with_reducible exact Below.refl _ _ | with_reducible (refine Below.setCell ?_ ?_ _) | with_reducible (refine Below.alloc ?_ ?_ _) | with_reducible (refine below_drew ?_) | with_reducible (refine below_drewN ?_ _) | with_reducible (refine Below.trans ?_ (Below.mono (by assumption) ?_)) | omega | (simp; done) | (simp; omega)))

theorem printS_no (s : St) (h : rightS s = false) : printS s = emp := by unfold printS; rw [h]; rfl
theorem printS1 (h : Rl) (who : ByteArray) (a b : Rl) (via : ByteArray) (hr : rightS ⟨1, h, who, a, b, via⟩ = true) : printS ⟨1, h, who, a, b, via⟩ = roleT h ++ ⟨#[32, 60, 45, 32]⟩ ++ who := by unfold printS; rw [hr]; rfl
theorem printS2 (h : Rl) (who : ByteArray) (a b : Rl) (via : ByteArray) (hr : rightS ⟨2, h, who, a, b, via⟩ = true) : printS ⟨2, h, who, a, b, via⟩ = roleT h ++ ⟨#[32, 60, 45, 32]⟩ ++ roleT a := by unfold printS; rw [hr]; rfl
theorem printS3 (h : Rl) (who : ByteArray) (a b : Rl) (via : ByteArray) (hr : rightS ⟨3, h, who, a, b, via⟩ = true) : printS ⟨3, h, who, a, b, via⟩ = roleT h ++ ⟨#[32, 60, 45, 32]⟩ ++ (roleT a ++ ⟨#[46]⟩ ++ via) := by unfold printS; rw [hr]; rfl
theorem printS4 (h : Rl) (who : ByteArray) (a b : Rl) (via : ByteArray) (hr : rightS ⟨4, h, who, a, b, via⟩ = true) : printS ⟨4, h, who, a, b, via⟩ = roleT h ++ ⟨#[32, 60, 45, 32]⟩ ++ (roleT a ++ ⟨#[32, 38, 32]⟩ ++ roleT b) := by unfold printS; rw [hr]; rfl
theorem roleT_size (r : Rl) : (roleT r).size = r.o.size + 1 + r.n.size := by simp [roleT, ByteArray.size_append]; rfl
theorem roleT_le (r : Rl) (h : r.le 4294967) : (roleT r).size ≤ 8600000 := by rw [roleT_size]; have := h.1; have := h.2; omega
theorem app_assoc (a b c : ByteArray) : a ++ b ++ c = a ++ (b ++ c) := by
  obtain ⟨⟨x⟩⟩ := a; obtain ⟨⟨y⟩⟩ := b; obtain ⟨⟨z⟩⟩ := c
  apply bl_inj.1
  rw [bl_append, bl_append, bl_append, bl_append, List.append_assoc]

set_option maxRecDepth 100000 in
set_option maxHeartbeats 4000000 in
theorem syn_Print (s : St) (w : World) (hs : s.le 4294967) :
    Calls Tryd.prog 14 #[sv s] w fun e w' => e = .returned (.string (printS s)) ∧ Below w.heap.size w w' := by
  have hle := Lib.hid hs
  clear hs
  cases hr : rightS s with
  | false =>
    have R := Lib.hid (printS_no s hr)
    have HR := Lib.hid hr
    obtain ⟨k, ⟨h1, h2⟩, who, ⟨a1, a2⟩, ⟨b1, b2⟩, via⟩ := s
    clear hr
    go_enter Tryd.func14, Tryd.ntmps14
    go_wp2_with (go_at_call 15; refine (syn_Right ⟨k, ⟨h1, h2⟩, who, ⟨a1, a2⟩, ⟨b1, b2⟩, via⟩ _ hle.out).mono ?_; rw [HR.out]; rintro e w1 ⟨rfl, hb⟩)
    go_ret
    refine ⟨ret_s (by rw [R.out]), ((Below.refl _ _).alloc (Nat.le_refl _) _).trans (hb.mono (by simp))⟩
  | true =>
    obtain ⟨k, ⟨h1, h2⟩, who, ⟨a1, a2⟩, ⟨b1, b2⟩, via⟩ := s
    have hTh := roleT_le ⟨h1, h2⟩ hle.out.1
    have hTa := roleT_le ⟨a1, a2⟩ hle.out.2.2.1
    have hTb := roleT_le ⟨b1, b2⟩ hle.out.2.2.2.1
    have hwho : who.size ≤ 4294967 := hle.out.2.1
    have hvia : via.size ≤ 4294967 := hle.out.2.2.2.2
    by_cases k3 : k = 3
    · subst k3
      have R := Lib.hid (printS3 ⟨h1, h2⟩ who ⟨a1, a2⟩ ⟨b1, b2⟩ via hr)
      have HR := Lib.hid hr
      clear hr
      go_enter Tryd.func14, Tryd.ntmps14
      go_wp2_with (first | (go_at_call 15; refine (syn_Right ⟨3, ⟨h1, h2⟩, who, ⟨a1, a2⟩, ⟨b1, b2⟩, via⟩ _ hle.out).mono ?_; rw [HR.out]; rintro e w1 ⟨rfl, hb⟩; obtain ⟨ca, fa, za⟩ := keep1 hb) | (go_at_call_of 32 (Value.agg #[.string h1, .string h2]); refine (syn_PrintRole ⟨h1, h2⟩ _ hle.out.1).mono ?_; rintro e w2 ⟨rfl, hb2⟩; obtain ⟨ca2, fa2, za2⟩ := Blk.below ⟨ca, fa, za⟩ hb2))
      have hnr := Blk.near ⟨ca2, fa2, za2⟩
      refine region_near (by kernel_rfl) (by kernel_rfl) ?_
      repeat (go_big_quiet_step ((first | (go_at_call_of 32 (Value.agg #[.string a1, .string a2]); exact Calls.near (syn_PrintRole ⟨a1, a2⟩ _ hle.out.2.2.1)) | (go_at_call_of 32 (Value.agg #[.string b1, .string b2]); exact Calls.near (syn_PrintRole ⟨b1, b2⟩ _ hle.out.2.2.2.1)))))
      refine wpQuiet_nil ?_
      rintro w3 ⟨⟨w3, hb3⟩, rfl⟩
      go_wp2
      go_ret
      refine ⟨ret_s (by rw [R.out]; simp only [app_assoc]), ?_⟩
      (repeat' (first | with_reducible exact Below.refl _ _ | with_reducible (refine Below.setCell ?_ ?_ _) | with_reducible (refine Below.alloc ?_ ?_ _) | with_reducible (refine below_drew ?_) | with_reducible (refine below_drewN ?_ _) | with_reducible (refine Below.trans ?_ (Below.mono (by assumption) ?_)) | omega | (simp; done) | (simp; omega)))
    by_cases k4 : k = 4
    · subst k4
      have R := Lib.hid (printS4 ⟨h1, h2⟩ who ⟨a1, a2⟩ ⟨b1, b2⟩ via hr)
      have HR := Lib.hid hr
      clear hr
      go_enter Tryd.func14, Tryd.ntmps14
      go_wp2_with (first | (go_at_call 15; refine (syn_Right ⟨4, ⟨h1, h2⟩, who, ⟨a1, a2⟩, ⟨b1, b2⟩, via⟩ _ hle.out).mono ?_; rw [HR.out]; rintro e w1 ⟨rfl, hb⟩; obtain ⟨ca, fa, za⟩ := keep1 hb) | (go_at_call_of 32 (Value.agg #[.string h1, .string h2]); refine (syn_PrintRole ⟨h1, h2⟩ _ hle.out.1).mono ?_; rintro e w2 ⟨rfl, hb2⟩; obtain ⟨ca2, fa2, za2⟩ := Blk.below ⟨ca, fa, za⟩ hb2))
      have hnr := Blk.near ⟨ca2, fa2, za2⟩
      refine region_near (by kernel_rfl) (by kernel_rfl) ?_
      repeat (go_big_quiet_step ((first | (go_at_call_of 32 (Value.agg #[.string a1, .string a2]); exact Calls.near (syn_PrintRole ⟨a1, a2⟩ _ hle.out.2.2.1)) | (go_at_call_of 32 (Value.agg #[.string b1, .string b2]); exact Calls.near (syn_PrintRole ⟨b1, b2⟩ _ hle.out.2.2.2.1)))))
      refine wpQuiet_nil ?_
      rintro w3 ⟨⟨w3, hb3⟩, rfl⟩
      go_wp2
      go_ret
      refine ⟨ret_s (by rw [R.out]; simp only [app_assoc]), ?_⟩
      (repeat' (first | with_reducible exact Below.refl _ _ | with_reducible (refine Below.setCell ?_ ?_ _) | with_reducible (refine Below.alloc ?_ ?_ _) | with_reducible (refine below_drew ?_) | with_reducible (refine below_drewN ?_ _) | with_reducible (refine Below.trans ?_ (Below.mono (by assumption) ?_)) | omega | (simp; done) | (simp; omega)))
    by_cases k2 : k = 2
    · subst k2
      have R := Lib.hid (printS2 ⟨h1, h2⟩ who ⟨a1, a2⟩ ⟨b1, b2⟩ via hr)
      have HR := Lib.hid hr
      clear hr
      go_enter Tryd.func14, Tryd.ntmps14
      go_wp2_with (first | (go_at_call 15; refine (syn_Right ⟨2, ⟨h1, h2⟩, who, ⟨a1, a2⟩, ⟨b1, b2⟩, via⟩ _ hle.out).mono ?_; rw [HR.out]; rintro e w1 ⟨rfl, hb⟩; obtain ⟨ca, fa, za⟩ := keep1 hb) | (go_at_call_of 32 (Value.agg #[.string h1, .string h2]); refine (syn_PrintRole ⟨h1, h2⟩ _ hle.out.1).mono ?_; rintro e w2 ⟨rfl, hb2⟩; obtain ⟨ca2, fa2, za2⟩ := Blk.below ⟨ca, fa, za⟩ hb2) | (go_at_call_of 32 (Value.agg #[.string a1, .string a2]); refine (syn_PrintRole ⟨a1, a2⟩ _ hle.out.2.2.1).mono ?_; rintro e w3 ⟨rfl, hb3⟩))
      go_ret
      refine ⟨ret_s (by rw [R.out]), ?_⟩
      (repeat' (first | with_reducible exact Below.refl _ _ | with_reducible (refine Below.setCell ?_ ?_ _) | with_reducible (refine Below.alloc ?_ ?_ _) | with_reducible (refine below_drew ?_) | with_reducible (refine below_drewN ?_ _) | with_reducible (refine Below.trans ?_ (Below.mono (by assumption) ?_)) | omega | (simp; done) | (simp; omega)))
    by_cases k1 : k = 1
    · subst k1
      have R := Lib.hid (printS1 ⟨h1, h2⟩ who ⟨a1, a2⟩ ⟨b1, b2⟩ via hr)
      have HR := Lib.hid hr
      clear hr
      go_enter Tryd.func14, Tryd.ntmps14
      go_wp2_with (first | (go_at_call 15; refine (syn_Right ⟨1, ⟨h1, h2⟩, who, ⟨a1, a2⟩, ⟨b1, b2⟩, via⟩ _ hle.out).mono ?_; rw [HR.out]; rintro e w1 ⟨rfl, hb⟩; obtain ⟨ca, fa, za⟩ := keep1 hb) | (go_at_call_of 32 (Value.agg #[.string h1, .string h2]); refine (syn_PrintRole ⟨h1, h2⟩ _ hle.out.1).mono ?_; rintro e w2 ⟨rfl, hb2⟩; obtain ⟨ca2, fa2, za2⟩ := Blk.below ⟨ca, fa, za⟩ hb2))
      go_ret
      refine ⟨ret_s (by rw [R.out]), ?_⟩
      (repeat' (first | with_reducible exact Below.refl _ _ | with_reducible (refine Below.setCell ?_ ?_ _) | with_reducible (refine Below.alloc ?_ ?_ _) | with_reducible (refine below_drew ?_) | with_reducible (refine below_drewN ?_ _) | with_reducible (refine Below.trans ?_ (Below.mono (by assumption) ?_)) | omega | (simp; done) | (simp; omega)))
    rw [rightS0 k _ _ _ _ _ k1 k2 k3 k4] at hr
    cases hr
end Go.Proofs.YtmpanikeeeoikaaDoor
