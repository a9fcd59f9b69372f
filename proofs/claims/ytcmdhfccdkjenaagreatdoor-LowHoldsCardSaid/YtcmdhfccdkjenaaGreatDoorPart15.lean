/- The document's example of layer 11. crupperref05.Right: some bool comes back; if it is true, all statements may be. -/
import Derived.Test.YtcmdhfccdkjenaaGreatDoorPart13
import Derived.Test.YtcmdhfccdkjenaaGreatDoorPart14
import Derived.Test.YtcmdhfccdkjenaaGreatDoorPart5
namespace Go.Proofs.YtcmdhfccdkjenaaGreatDoor
open Go.RowKit Go.Shelf

theorem law11_role (n : ByteArray) (w : World) : Calls Tryz.prog 78 #[.string n] w fun e w' => e = .returned (rv ⟨⟨#[65]⟩, n⟩) ∧ Below w.heap.size w w' := by
  go_enter Tryz.func78, Tryz.ntmps78
  go_wp2_with fail
  refine bodyPost_ret (v := rv ⟨⟨#[65]⟩, n⟩) (by simp [results, Tryz.results78, go_sem]) rfl ⟨rfl, ?_⟩
  exact (Below.refl _ _).alloc (Nat.le_refl _) _
def r11r : Rl := ⟨⟨#[65]⟩, ⟨#[114]⟩⟩
def r11s : Rl := ⟨⟨#[65]⟩, ⟨#[115]⟩⟩
def s11a : St := ⟨1, r11r, ⟨#[66]⟩, noR, noR, emp⟩
def s11b : St := ⟨1, r11s, ⟨#[67]⟩, noR, noR, emp⟩
def p11 : List Pr := [(r11s, ⟨#[67]⟩)]
theorem ex11_min : minS [s11a, s11b] [r11s] = [s11b] := by kernel_rfl
theorem ex11_least : LeastS (minS [s11a, s11b] [r11s]) (fun r x => (r, x) ∈ p11) := by
  rw [ex11_min]
  have h1 : ∀ s ∈ [s11b], s.k = 1 ∧ s.h = r11s ∧ s.who = ⟨#[67]⟩ := fun s hs => by rw [List.mem_singleton.1 hs]; exact ⟨rfl, rfl, rfl⟩
  refine ⟨⟨fun s hs _ => ?_, fun s hs h => ?_, fun s hs h => ?_, fun s hs h => ?_⟩, fun E hE r x hx => ?_⟩
  · rw [(h1 s hs).2.1, (h1 s hs).2.2]; exact List.mem_singleton.2 rfl
  · rw [(h1 s hs).1] at h; cases h
  · rw [(h1 s hs).1] at h; cases h
  · rw [(h1 s hs).1] at h; cases h
  · have e := List.mem_singleton.1 hx
    simp only [Prod.mk.injEq] at e
    obtain ⟨rfl, rfl⟩ := e
    exact hE.mem s11b (List.mem_singleton.2 rfl) rfl
theorem ex11_s : membersP p11 r11s = [⟨#[67]⟩] := by kernel_rfl
theorem ex11_r : membersP p11 r11r = [] := by kernel_rfl
theorem ex11_right : ∀ s ∈ [s11a, s11b], rightS s = true := by
  intro s hs
  simp only [List.mem_cons, List.not_mem_nil, or_false] at hs
  rcases hs with rfl | rfl <;> kernel_rfl
theorem ex11_le : allLe [s11a, s11b] 40 := by
  intro s hs
  simp only [List.mem_cons, List.not_mem_nil, or_false] at hs
  rcases hs with rfl | rfl <;> (simp only [s11a, s11b, r11r, r11s, St.le, Rl.le, noR, ByteArray.size]; decide)
theorem ex11_pol {w : World} {b1 b2 : Nat} (h1 : Sl w 9 (.slice (some ⟨b1, 0, none⟩) 2 2) 2 ([s11a, s11b].flatMap St.cells)) (h2 : Sl w 2 (.slice (some ⟨b2, 0, none⟩) 1 1) 1 ([r11s].flatMap Rl.cells)) :
    PolAt w (.slice (some ⟨b1, 0, none⟩) 2 2) (.slice none 0 0) (.slice (some ⟨b2, 0, none⟩) 1 1) (.slice none 0 0) [s11a, s11b] [] [r11s] [] :=
  ⟨h1.a, (Sl.nil _ _).a, h2.a, (Sl.nil _ _).a, fun s hs => (ex11_le s hs).mono (by decide), fun _ h => (by cases h), fun x hx => (by rw [List.mem_singleton.1 hx]; exact ⟨by decide, by decide⟩), fun _ h => (by cases h)⟩
def F11 : Qv → List ByteArray := fun _ => []
theorem ex11_ps : (newB (allPrins [s11a, s11b] [] [r11s] [] F11)).length ≤ 64 := Nat.le_trans (new_len _) (Nat.le_of_ble_eq_true rfl)
theorem ex11_ns : (newB (allNames [s11a, s11b] [] [r11s] [])).length ≤ 64 := Nat.le_trans (new_len _) (Nat.le_of_ble_eq_true rfl)
section
variable {w : World} {b1 b2 : Nat}
theorem ex11_Minimal (h : PolAt w (.slice (some ⟨b1, 0, none⟩) 2 2) (.slice none 0 0) (.slice (some ⟨b2, 0, none⟩) 1 1) (.slice none 0 0) [s11a, s11b] [] [r11s] []) :
    Calls Tryz.prog 19 #[pv (.slice (some ⟨b1, 0, none⟩) 2 2) (.slice none 0 0) (.slice (some ⟨b2, 0, none⟩) 1 1) (.slice none 0 0)] w fun e w' => ∃ a c, e = .returned (.slice a 1 c) ∧ Below w.heap.size w w' := by
  refine (low_Minimal _ _ _ _ _ _ _ _ w h (by decide)).mono ?_
  rintro e w' ⟨v, rfl, hs, hb⟩
  rw [ex11_min] at hs
  obtain ⟨a, c, rfl⟩ := hs.form
  exact ⟨a, c, rfl, hb⟩
theorem ex11_Members (h : PolAt w (.slice (some ⟨b1, 0, none⟩) 2 2) (.slice none 0 0) (.slice (some ⟨b2, 0, none⟩) 1 1) (.slice none 0 0) [s11a, s11b] [] [r11s] []) (hT : TB w) (r : Rl) :
    Calls Tryz.prog 23 #[pv (.slice (some ⟨b1, 0, none⟩) 2 2) (.slice none 0 0) (.slice (some ⟨b2, 0, none⟩) 1 1) (.slice none 0 0), rv r] w fun e w' => ∃ a c, e = .returned (.slice a (membersP p11 r).length c) ∧ Sl w' 1 (.slice a (membersP p11 r).length c) (membersP p11 r).length (strs (membersP p11 r)) ∧ Below w.heap.size w w' := by
  refine (low_Members _ _ _ _ _ _ _ _ r w h (by decide) (by decide) (by decide) (by decide) F11 (fun _ h => by cases h) (fun s hs => (ex11_le s hs).mono (by decide)) hT ex11_ps ex11_ns ex11_right).mono ?_
  rintro e w' ⟨v, ms, rfl, hs, hm, hb⟩
  rw [hm p11 ex11_least] at hs
  obtain ⟨a, c, rfl⟩ := hs.form
  exact ⟨a, c, rfl, hs, hb⟩
theorem ex11_Steps (h : PolAt w (.slice (some ⟨b1, 0, none⟩) 2 2) (.slice none 0 0) (.slice (some ⟨b2, 0, none⟩) 1 1) (.slice none 0 0) [s11a, s11b] [] [r11s] []) (hT : TB w) :
    Calls Tryz.prog 80 #[pv (.slice (some ⟨b1, 0, none⟩) 2 2) (.slice none 0 0) (.slice (some ⟨b2, 0, none⟩) 1 1) (.slice none 0 0)] w fun e w' => ∃ st : Nat, e = .returned (.int .i64 st) ∧ decide ((0 : Int) < st) = true ∧ Below w.heap.size w w' := by
  refine (low_Steps _ _ _ _ _ _ _ _ w h (by decide) (by decide) (by decide) (by decide) F11 (fun _ h => by cases h) (fun s hs => (ex11_le s hs).mono (by decide)) hT ex11_ps ex11_ns).mono ?_
  rintro e w' ⟨t, M, fs, st, rfl, ht, hb⟩
  have := low_steps_pos ht ex11_ps ex11_ns ex11_right ex11_least (r := r11s) (by rw [ex11_s]; exact List.cons_ne_nil _ _)
  exact ⟨st, rfl, decide_eq_true (by omega), hb⟩
end
set_option maxRecDepth 100000 in
set_option maxHeartbeats 4000000 in
theorem law11_lives (w : World) (hT : TB w) : Calls Tryz.prog 18 #[] w fun e w' => e = .returned (.bool true) ∧ Below w.heap.size w w' := by
  have HTB := Lib.hid hT
  have RO := Lib.hid (fun n W => law11_role n W)
  clear hT
  go_enter Tryz.func18, Tryz.ntmps18
  go_wp2_with fail
  refine (RO.out _ _).mono ?_
  rintro e w1 ⟨rfl, hb1⟩
  go_wp2_with fail
  refine (RO.out _ _).mono ?_
  rintro e w2 ⟨rfl, hb2⟩
  go_wp2_with fail
  obtain ⟨w3, hw3⟩ : ∃ V, V = w2.alloc (.cells #[.int .i64 1, .string ⟨#[65]⟩, .string ⟨#[114]⟩, .string ⟨#[66]⟩, .string emp, .string emp, .string emp, .string emp, .string emp, .int .i64 1, .string ⟨#[65]⟩, .string ⟨#[115]⟩, .string ⟨#[67]⟩, .string emp, .string emp, .string emp, .string emp, .string emp] 35) := ⟨_, rfl⟩
  change Calls _ _ _ (w2.alloc (.cells #[.int .i64 1, .string ⟨#[65]⟩, .string ⟨#[114]⟩, .string ⟨#[66]⟩, .string emp, .string emp, .string emp, .string emp, .string emp, .int .i64 1, .string ⟨#[65]⟩, .string ⟨#[115]⟩, .string ⟨#[67]⟩, .string emp, .string emp, .string emp, .string emp, .string emp] 35)) _
  rw [← hw3]
  refine (RO.out _ _).mono ?_
  rintro e w4 ⟨rfl, hb4⟩
  go_wp2_with fail
  obtain ⟨wb, hwb⟩ : ∃ V, V = w4.alloc (.cells #[.string ⟨#[65]⟩, .string ⟨#[115]⟩] 28) := ⟨_, rfl⟩
  have hsz : wb.heap.size = w4.heap.size + 1 := by rw [hwb]; simp
  have hb2z : w2.heap.size < w4.heap.size := Nat.lt_of_lt_of_le (by rw [hw3]; simp) hb4.size
  have H1 := Lib.hid (show Sl w4 9 (.slice (some ⟨w2.heap.size, 0, none⟩) 2 2) 2 ([s11a, s11b].flatMap St.cells) by
    refine Sl.below (w := w3) ?_ hb4
    rw [hw3]
    exact Sl.new w2 [.int .i64 1, .string ⟨#[65]⟩, .string ⟨#[114]⟩, .string ⟨#[66]⟩, .string emp, .string emp, .string emp, .string emp, .string emp, .int .i64 1, .string ⟨#[65]⟩, .string ⟨#[115]⟩, .string ⟨#[67]⟩, .string emp, .string emp, .string emp, .string emp, .string emp] 35 9 2 w2.heap.size rfl rfl (by simp [maxLen]))
  have h4b : Below w4.heap.size w4 wb := by rw [hwb]; exact (Below.refl _ _).alloc (Nat.le_refl _) _
  have H2 := Lib.hid (show Sl wb 2 (.slice (some ⟨w4.heap.size, 0, none⟩) 1 1) 1 ([r11s].flatMap Rl.cells) by
    rw [hwb]; exact Sl.new w4 [.string ⟨#[65]⟩, .string ⟨#[115]⟩] 28 2 1 w4.heap.size rfl rfl (by simp [maxLen]))
  have HPb := Lib.hid (ex11_pol (H1.out.below h4b) H2.out)
  have h3 : Below w2.heap.size w2 w3 := by rw [hw3]; exact (Below.refl _ _).alloc (Nat.le_refl _) _
  have hwb0 : Below w.heap.size w wb := ((hb1.trans (hb2.mono hb1.size)).trans (h3.mono (Nat.le_trans hb1.size hb2.size))).trans ((hb4.mono (Nat.le_trans (Nat.le_trans hb1.size hb2.size) h3.size)).trans (h4b.mono (Nat.le_trans (Nat.le_trans (Nat.le_trans hb1.size hb2.size) h3.size) hb4.size)))
  have HB := Lib.hid hwb0
  rw [← hwb, ← hsz]
  generalize w2.heap.size = b1 at *
  generalize w4.heap.size = b2 at *
  have MN := Lib.hid (fun W hb => ex11_Minimal (HPb.out.below (w' := W) hb))
  have MS := Lib.hid (fun W hb => ex11_Members (HPb.out.below (w' := W) hb) (HTB.out.below (HB.out.trans (hb.mono HB.out.size))) r11s)
  have MR := Lib.hid (fun W hb => ex11_Members (HPb.out.below (w' := W) hb) (HTB.out.below (HB.out.trans (hb.mono HB.out.size))) r11r)
  have SP := Lib.hid (fun W hb => ex11_Steps (HPb.out.below (w' := W) hb) (HTB.out.below (HB.out.trans (hb.mono HB.out.size))))
  rw [ex11_s] at MS
  rw [ex11_r] at MR
  have HT := (show OneAt wb #[.slice (some ⟨b1, 0, none⟩) 2 2, .slice none 0 0, .slice (some ⟨b2, 0, none⟩) 1 1, .slice none 0 0] (wb.alloc (.cells #[.slice (some ⟨b1, 0, none⟩) 2 2, .slice none 0 0, .slice (some ⟨b2, 0, none⟩) 1 1, .slice none 0 0] 26)) from ⟨Blk.new wb _ _, (Below.refl _ _).alloc (Nat.le_refl _) _⟩).drew
  clear hwb hsz hb2z H1 H2 HPb h3 hwb0 h4b hb1 hb2 hb4 hw3
  refine wp_region_held_drew (S := (fun W => ∀ o, W.cell? ⟨wb.heap.size, o, none⟩ = (#[.slice (some ⟨b1, 0, none⟩) 2 2, .slice none 0 0, .slice (some ⟨b2, 0, none⟩) 1 1, .slice none 0 0] : Array Value)[o]?)) (by kernel_rfl) HT.a.1 (fun hHeld => ?_)
  obtain ⟨wk, hwk⟩ : ∃ W, W = (wb.alloc (.cells #[.slice (some ⟨b1, 0, none⟩) 2 2, .slice none 0 0, .slice (some ⟨b2, 0, none⟩) 1 1, .slice none 0 0] 26)).drew := ⟨_, rfl⟩
  rw [← hwk] at HT hHeld ⊢
  clear hwk
  (refine held_yes (v := ?_) 0 rfl (by kernel_rfl) (by kernel_rfl) (by kernel_rfl) (fun _ _ _ h => h) (by rfl) (by assumption) ?_ ?_; rotate_left; (focus ((intro w hSw); (try dsimp only at hSw); go_simp; (try with_reducible rfl))); (try simp only [Act.put, List.setIfInBounds_toArray, List.set_cons_zero, List.set_cons_succ]))
  (refine held_call 1 rfl (by kernel_rfl) (fun K hK => ?_); go_simp)
  go_at_call 19; refine (MN.out _ HT.low).mono ?_; rintro e wm ⟨na, nc, rfl, hbq⟩; have HT := HT.later hbq; clear hbq
  (refine hK.out _ _ (HT.a.1) (fun hHeld => ?_); clear hK K; (try simp only [Act.put, List.setIfInBounds_toArray, List.set_cons_zero, List.set_cons_succ]))
  (refine held_yes (v := ?_) 2 rfl (by kernel_rfl) (by kernel_rfl) (by kernel_rfl) (fun _ _ _ h => h) (by rfl) (by assumption) ?_ ?_; rotate_left; (focus ((intro w hSw); (try dsimp only at hSw); go_simp; (try with_reducible rfl))); (try simp only [Act.put, List.setIfInBounds_toArray, List.set_cons_zero, List.set_cons_succ])); (refine held_yes (v := ?_) 3 rfl (by kernel_rfl) (by kernel_rfl) (by kernel_rfl) (fun _ _ _ h => h) (by rfl) (by assumption) ?_ ?_; rotate_left; (focus ((intro w hSw); (try dsimp only at hSw); go_simp; (try with_reducible rfl))); (try simp only [Act.put, List.setIfInBounds_toArray, List.set_cons_zero, List.set_cons_succ])); (refine held_yes (v := ?_) 4 rfl (by kernel_rfl) (by kernel_rfl) (by kernel_rfl) (fun _ _ _ h => h) (by rfl) (by assumption) ?_ ?_; rotate_left; (focus ((intro w hSw); (try dsimp only at hSw); go_simp; (try with_reducible rfl))); (try simp only [Act.put, List.setIfInBounds_toArray, List.set_cons_zero, List.set_cons_succ])); (refine held_yes (v := ?_) 5 rfl (by kernel_rfl) (by kernel_rfl) (by kernel_rfl) (fun _ _ _ h => h) (by rfl) (by assumption) ?_ ?_; rotate_left; (focus ((intro w hSw); (try dsimp only at hSw); go_simp; (try with_reducible rfl))); (try simp only [Act.put, List.setIfInBounds_toArray, List.set_cons_zero, List.set_cons_succ]))
  refine wpAnyH_ready (rs := [6, 8]) (by kernel_rfl) (by simp) (AllReadyH.cons rfl (fun K hK => ?_) (AllReadyH.cons rfl (fun K hK => ?_) AllReadyH.nil))
  · go_simp
    go_at_call 78; refine (RO.out _ _).mono ?_; rintro e wr ⟨rfl, hbq⟩; have HT := HT.later hbq; clear hbq
    (refine hK.out _ _ (HT.a.1) (fun hHeld => ?_); clear hK K; (try simp only [Act.put, List.setIfInBounds_toArray, List.set_cons_zero, List.set_cons_succ]))
    refine wpAnyH_ready (rs := [7, 8]) (by kernel_rfl) (by simp) (AllReadyH.cons rfl (fun K hK => ?_) (AllReadyH.cons rfl (fun K hK => ?_) AllReadyH.nil))
    · go_simp
      go_at_call 23; refine (MS.out _ HT.low).mono ?_; rintro e ws ⟨ma, mc, rfl, hm, hbq⟩; have HT := HT.later hbq; have Hm := hm; clear hm; clear hbq
      (refine hK.out _ _ (HT.a.1) (fun hHeld => ?_); clear hK K; (try simp only [Act.put, List.setIfInBounds_toArray, List.set_cons_zero, List.set_cons_succ]))
      (refine held_call 8 rfl (by kernel_rfl) (fun K hK => ?_); go_simp)
      obtain ⟨b8, hb8⟩ : ∃ b, b = ws.heap.size := ⟨_, rfl⟩
      obtain ⟨wn, hwn⟩ : ∃ V, V = ws.alloc (.cells #[.string ⟨#[67]⟩] 9) := ⟨_, rfl⟩
      rw [← hwn, ← hb8]
      have hbq : Below ws.heap.size ws wn := by rw [hwn]; exact (Below.refl _ _).alloc (Nat.le_refl _) _
      have Hc : Sl wn 1 (.slice (some ⟨b8, 0, none⟩) 1 1) 1 [.string ⟨#[67]⟩] := by rw [hwn]; exact Sl.new ws [.string ⟨#[67]⟩] 9 1 1 b8 hb8 rfl (by simp [maxLen])
      have Hm := Hm.below hbq
      have HT := HT.later hbq
      clear hbq hwn hb8
      (refine hK.out _ _ (HT.a.1) (fun hHeld => ?_); clear hK K; (try simp only [Act.put, List.setIfInBounds_toArray, List.set_cons_zero, List.set_cons_succ]))
      (refine held_call 9 rfl (by kernel_rfl) (fun K hK => ?_); go_simp)
      go_at_call 79; refine (ref1_SameB _ _ [⟨#[67]⟩] _ Hm.a Hc.a).mono ?_; rintro e wt ⟨rfl, hbq⟩; have HT := HT.later hbq; clear hbq
      (refine hK.out _ _ (HT.a.1) (fun hHeld => ?_); clear hK K; (try simp only [Act.put, List.setIfInBounds_toArray, List.set_cons_zero, List.set_cons_succ]))
      (refine held_yes (v := ?_) 10 rfl (by kernel_rfl) (by kernel_rfl) (by kernel_rfl) (fun _ _ _ h => h) (by rfl) (by assumption) ?_ ?_; rotate_left; (focus ((intro w hSw); (try dsimp only at hSw); go_simp; (try with_reducible rfl))); (try simp only [Act.put, List.setIfInBounds_toArray, List.set_cons_zero, List.set_cons_succ])); (refine held_yes (v := ?_) 11 rfl (by kernel_rfl) (by kernel_rfl) (by kernel_rfl) (fun _ _ _ h => h) (by rfl) (by assumption) ?_ ?_; rotate_left; (focus ((intro w hSw); (try dsimp only at hSw); go_simp; (try with_reducible rfl))); (try simp only [Act.put, List.setIfInBounds_toArray, List.set_cons_zero, List.set_cons_succ])); (refine held_yes (v := ?_) 12 rfl (by kernel_rfl) (by kernel_rfl) (by kernel_rfl) (fun _ _ _ h => h) (by rfl) (by assumption) ?_ ?_; rotate_left; (focus ((intro w hSw); (try dsimp only at hSw); go_simp; (try with_reducible rfl))); (try simp only [Act.put, List.setIfInBounds_toArray, List.set_cons_zero, List.set_cons_succ]))
      (refine held_call 13 rfl (by kernel_rfl) (fun K hK => ?_); go_simp)
      go_at_call 78; refine (RO.out _ _).mono ?_; rintro e wu ⟨rfl, hbq⟩; have HT := HT.later hbq; clear hbq
      (refine hK.out _ _ (HT.a.1) (fun hHeld => ?_); clear hK K; (try simp only [Act.put, List.setIfInBounds_toArray, List.set_cons_zero, List.set_cons_succ]))
      (refine held_call 14 rfl (by kernel_rfl) (fun K hK => ?_); go_simp)
      go_at_call 23; refine (MR.out _ HT.low).mono ?_; rintro e wv ⟨ra, rc, rfl, _, hbq⟩; have HT := HT.later hbq; clear hbq
      (refine hK.out _ _ (HT.a.1) (fun hHeld => ?_); clear hK K; (try simp only [Act.put, List.setIfInBounds_toArray, List.set_cons_zero, List.set_cons_succ]))
      (refine held_yes (v := ?_) 15 rfl (by kernel_rfl) (by kernel_rfl) (by kernel_rfl) (fun _ _ _ h => h) (by rfl) (by assumption) ?_ ?_; rotate_left; (focus ((intro w hSw); (try dsimp only at hSw); go_simp; (try with_reducible rfl))); (try simp only [Act.put, List.setIfInBounds_toArray, List.set_cons_zero, List.set_cons_succ])); (refine held_yes (v := ?_) 16 rfl (by kernel_rfl) (by kernel_rfl) (by kernel_rfl) (fun _ _ _ h => h) (by rfl) (by assumption) ?_ ?_; rotate_left; (focus ((intro w hSw); (try dsimp only at hSw); go_simp; (try with_reducible rfl))); (try simp only [Act.put, List.setIfInBounds_toArray, List.set_cons_zero, List.set_cons_succ])); (refine held_yes (v := ?_) 17 rfl (by kernel_rfl) (by kernel_rfl) (by kernel_rfl) (fun _ _ _ h => h) (by rfl) (by assumption) ?_ ?_; rotate_left; (focus ((intro w hSw); (try dsimp only at hSw); go_simp; (try with_reducible rfl))); (try simp only [Act.put, List.setIfInBounds_toArray, List.set_cons_zero, List.set_cons_succ])); (refine held_yes (v := ?_) 18 rfl (by kernel_rfl) (by kernel_rfl) (by kernel_rfl) (fun _ _ _ h => h) (by rfl) (by assumption) ?_ ?_; rotate_left; (focus ((intro w hSw); (try dsimp only at hSw); go_simp; (try with_reducible rfl))); (try simp only [Act.put, List.setIfInBounds_toArray, List.set_cons_zero, List.set_cons_succ])); (refine held_yes (v := ?_) 19 rfl (by kernel_rfl) (by kernel_rfl) (by kernel_rfl) (fun _ _ _ h => h) (by rfl) (by assumption) ?_ ?_; rotate_left; (focus ((intro w hSw); (try dsimp only at hSw); go_simp; (try with_reducible rfl))); (try simp only [Act.put, List.setIfInBounds_toArray, List.set_cons_zero, List.set_cons_succ]))
      (refine held_call 20 rfl (by kernel_rfl) (fun K hK => ?_); go_simp)
      go_at_call 80; refine (SP.out _ HT.low).mono ?_; rintro e wx ⟨st, rfl, hst, hbq⟩; have HT := HT.later hbq; clear hbq
      (refine hK.out _ _ (HT.a.1) (fun hHeld => ?_); clear hK K; (try simp only [Act.put, List.setIfInBounds_toArray, List.set_cons_zero, List.set_cons_succ]))
      (refine held_yes (v := ?_) 21 rfl (by kernel_rfl) (by kernel_rfl) (by kernel_rfl) (fun _ _ _ h => h) (by rfl) (by assumption) ?_ ?_; rotate_left; (focus ((intro w hSw); (try dsimp only at hSw); go_simp; (try with_reducible rfl))); (try simp only [Act.put, List.setIfInBounds_toArray, List.set_cons_zero, List.set_cons_succ])); (refine held_yes (v := ?_) 22 rfl (by kernel_rfl) (by kernel_rfl) (by kernel_rfl) (fun _ _ _ h => h) (by rfl) (by assumption) ?_ ?_; rotate_left; (focus ((intro w hSw); (try dsimp only at hSw); go_simp; (try with_reducible rfl))); (try simp only [Act.put, List.setIfInBounds_toArray, List.set_cons_zero, List.set_cons_succ]))
      (refine held_yes (v := ?_) 23 rfl (by kernel_rfl) (by kernel_rfl) (by kernel_rfl) (fun _ _ _ h => h) (by rfl) (by assumption) ?_ ?_; rotate_left; (focus ((intro w hSw); (try dsimp only at hSw); go_simp; (try with_reducible rfl))); (try simp only [Act.put, List.setIfInBounds_toArray, List.set_cons_zero]))
      refine wpAnyH_done (by kernel_rfl) ?_ _
      have HZ := Lib.hid (HB.out.trans (HT.low.mono HB.out.size))
      clear HT
      go_wp2_with fail
      go_ret
      exact ⟨by first | rfl | (have hp := of_decide_eq_true hst; simp; omega), HZ.out⟩
    · go_simp
      obtain ⟨b8, hb8⟩ : ∃ b, b = wr.heap.size := ⟨_, rfl⟩
      obtain ⟨wn, hwn⟩ : ∃ V, V = wr.alloc (.cells #[.string ⟨#[67]⟩] 9) := ⟨_, rfl⟩
      rw [← hwn, ← hb8]
      have hbq : Below wr.heap.size wr wn := by rw [hwn]; exact (Below.refl _ _).alloc (Nat.le_refl _) _
      have Hc : Sl wn 1 (.slice (some ⟨b8, 0, none⟩) 1 1) 1 [.string ⟨#[67]⟩] := by rw [hwn]; exact Sl.new wr [.string ⟨#[67]⟩] 9 1 1 b8 hb8 rfl (by simp [maxLen])
      have HT := HT.later hbq
      clear hbq hwn hb8
      (refine hK.out _ _ (HT.a.1) (fun hHeld => ?_); clear hK K; (try simp only [Act.put, List.setIfInBounds_toArray, List.set_cons_zero, List.set_cons_succ]))
      (refine held_call 7 rfl (by kernel_rfl) (fun K hK => ?_); go_simp)
      go_at_call 23; refine (MS.out _ HT.low).mono ?_; rintro e ws ⟨ma, mc, rfl, hm, hbq⟩; have HT := HT.later hbq; have Hm := hm; clear hm; have Hc := Hc.below hbq; clear hbq
      (refine hK.out _ _ (HT.a.1) (fun hHeld => ?_); clear hK K; (try simp only [Act.put, List.setIfInBounds_toArray, List.set_cons_zero, List.set_cons_succ]))
      (refine held_call 9 rfl (by kernel_rfl) (fun K hK => ?_); go_simp)
      go_at_call 79; refine (ref1_SameB _ _ [⟨#[67]⟩] _ Hm.a Hc.a).mono ?_; rintro e wt ⟨rfl, hbq⟩; have HT := HT.later hbq; clear hbq
      (refine hK.out _ _ (HT.a.1) (fun hHeld => ?_); clear hK K; (try simp only [Act.put, List.setIfInBounds_toArray, List.set_cons_zero, List.set_cons_succ]))
      (refine held_yes (v := ?_) 10 rfl (by kernel_rfl) (by kernel_rfl) (by kernel_rfl) (fun _ _ _ h => h) (by rfl) (by assumption) ?_ ?_; rotate_left; (focus ((intro w hSw); (try dsimp only at hSw); go_simp; (try with_reducible rfl))); (try simp only [Act.put, List.setIfInBounds_toArray, List.set_cons_zero, List.set_cons_succ])); (refine held_yes (v := ?_) 11 rfl (by kernel_rfl) (by kernel_rfl) (by kernel_rfl) (fun _ _ _ h => h) (by rfl) (by assumption) ?_ ?_; rotate_left; (focus ((intro w hSw); (try dsimp only at hSw); go_simp; (try with_reducible rfl))); (try simp only [Act.put, List.setIfInBounds_toArray, List.set_cons_zero, List.set_cons_succ])); (refine held_yes (v := ?_) 12 rfl (by kernel_rfl) (by kernel_rfl) (by kernel_rfl) (fun _ _ _ h => h) (by rfl) (by assumption) ?_ ?_; rotate_left; (focus ((intro w hSw); (try dsimp only at hSw); go_simp; (try with_reducible rfl))); (try simp only [Act.put, List.setIfInBounds_toArray, List.set_cons_zero, List.set_cons_succ]))
      (refine held_call 13 rfl (by kernel_rfl) (fun K hK => ?_); go_simp)
      go_at_call 78; refine (RO.out _ _).mono ?_; rintro e wu ⟨rfl, hbq⟩; have HT := HT.later hbq; clear hbq
      (refine hK.out _ _ (HT.a.1) (fun hHeld => ?_); clear hK K; (try simp only [Act.put, List.setIfInBounds_toArray, List.set_cons_zero, List.set_cons_succ]))
      (refine held_call 14 rfl (by kernel_rfl) (fun K hK => ?_); go_simp)
      go_at_call 23; refine (MR.out _ HT.low).mono ?_; rintro e wv ⟨ra, rc, rfl, _, hbq⟩; have HT := HT.later hbq; clear hbq
      (refine hK.out _ _ (HT.a.1) (fun hHeld => ?_); clear hK K; (try simp only [Act.put, List.setIfInBounds_toArray, List.set_cons_zero, List.set_cons_succ]))
      (refine held_yes (v := ?_) 15 rfl (by kernel_rfl) (by kernel_rfl) (by kernel_rfl) (fun _ _ _ h => h) (by rfl) (by assumption) ?_ ?_; rotate_left; (focus ((intro w hSw); (try dsimp only at hSw); go_simp; (try with_reducible rfl))); (try simp only [Act.put, List.setIfInBounds_toArray, List.set_cons_zero, List.set_cons_succ])); (refine held_yes (v := ?_) 16 rfl (by kernel_rfl) (by kernel_rfl) (by kernel_rfl) (fun _ _ _ h => h) (by rfl) (by assumption) ?_ ?_; rotate_left; (focus ((intro w hSw); (try dsimp only at hSw); go_simp; (try with_reducible rfl))); (try simp only [Act.put, List.setIfInBounds_toArray, List.set_cons_zero, List.set_cons_succ])); (refine held_yes (v := ?_) 17 rfl (by kernel_rfl) (by kernel_rfl) (by kernel_rfl) (fun _ _ _ h => h) (by rfl) (by assumption) ?_ ?_; rotate_left; (focus ((intro w hSw); (try dsimp only at hSw); go_simp; (try with_reducible rfl))); (try simp only [Act.put, List.setIfInBounds_toArray, List.set_cons_zero, List.set_cons_succ])); (refine held_yes (v := ?_) 18 rfl (by kernel_rfl) (by kernel_rfl) (by kernel_rfl) (fun _ _ _ h => h) (by rfl) (by assumption) ?_ ?_; rotate_left; (focus ((intro w hSw); (try dsimp only at hSw); go_simp; (try with_reducible rfl))); (try simp only [Act.put, List.setIfInBounds_toArray, List.set_cons_zero, List.set_cons_succ])); (refine held_yes (v := ?_) 19 rfl (by kernel_rfl) (by kernel_rfl) (by kernel_rfl) (fun _ _ _ h => h) (by rfl) (by assumption) ?_ ?_; rotate_left; (focus ((intro w hSw); (try dsimp only at hSw); go_simp; (try with_reducible rfl))); (try simp only [Act.put, List.setIfInBounds_toArray, List.set_cons_zero, List.set_cons_succ]))
      (refine held_call 20 rfl (by kernel_rfl) (fun K hK => ?_); go_simp)
      go_at_call 80; refine (SP.out _ HT.low).mono ?_; rintro e wx ⟨st, rfl, hst, hbq⟩; have HT := HT.later hbq; clear hbq
      (refine hK.out _ _ (HT.a.1) (fun hHeld => ?_); clear hK K; (try simp only [Act.put, List.setIfInBounds_toArray, List.set_cons_zero, List.set_cons_succ]))
      (refine held_yes (v := ?_) 21 rfl (by kernel_rfl) (by kernel_rfl) (by kernel_rfl) (fun _ _ _ h => h) (by rfl) (by assumption) ?_ ?_; rotate_left; (focus ((intro w hSw); (try dsimp only at hSw); go_simp; (try with_reducible rfl))); (try simp only [Act.put, List.setIfInBounds_toArray, List.set_cons_zero, List.set_cons_succ])); (refine held_yes (v := ?_) 22 rfl (by kernel_rfl) (by kernel_rfl) (by kernel_rfl) (fun _ _ _ h => h) (by rfl) (by assumption) ?_ ?_; rotate_left; (focus ((intro w hSw); (try dsimp only at hSw); go_simp; (try with_reducible rfl))); (try simp only [Act.put, List.setIfInBounds_toArray, List.set_cons_zero, List.set_cons_succ]))
      (refine held_yes (v := ?_) 23 rfl (by kernel_rfl) (by kernel_rfl) (by kernel_rfl) (fun _ _ _ h => h) (by rfl) (by assumption) ?_ ?_; rotate_left; (focus ((intro w hSw); (try dsimp only at hSw); go_simp; (try with_reducible rfl))); (try simp only [Act.put, List.setIfInBounds_toArray, List.set_cons_zero]))
      refine wpAnyH_done (by kernel_rfl) ?_ _
      have HZ := Lib.hid (HB.out.trans (HT.low.mono HB.out.size))
      clear HT
      go_wp2_with fail
      go_ret
      exact ⟨by first | rfl | (have hp := of_decide_eq_true hst; simp; omega), HZ.out⟩
  · go_simp
    obtain ⟨b8, hb8⟩ : ∃ b, b = wm.heap.size := ⟨_, rfl⟩
    obtain ⟨wn, hwn⟩ : ∃ V, V = wm.alloc (.cells #[.string ⟨#[67]⟩] 9) := ⟨_, rfl⟩
    rw [← hwn, ← hb8]
    have hbq : Below wm.heap.size wm wn := by rw [hwn]; exact (Below.refl _ _).alloc (Nat.le_refl _) _
    have Hc : Sl wn 1 (.slice (some ⟨b8, 0, none⟩) 1 1) 1 [.string ⟨#[67]⟩] := by rw [hwn]; exact Sl.new wm [.string ⟨#[67]⟩] 9 1 1 b8 hb8 rfl (by simp [maxLen])
    have HT := HT.later hbq
    clear hbq hwn hb8
    (refine hK.out _ _ (HT.a.1) (fun hHeld => ?_); clear hK K; (try simp only [Act.put, List.setIfInBounds_toArray, List.set_cons_zero, List.set_cons_succ]))
    (refine held_call 6 rfl (by kernel_rfl) (fun K hK => ?_); go_simp)
    go_at_call 78; refine (RO.out _ _).mono ?_; rintro e wr ⟨rfl, hbq⟩; have HT := HT.later hbq; have Hc := Hc.below hbq; clear hbq
    (refine hK.out _ _ (HT.a.1) (fun hHeld => ?_); clear hK K; (try simp only [Act.put, List.setIfInBounds_toArray, List.set_cons_zero, List.set_cons_succ]))
    (refine held_call 7 rfl (by kernel_rfl) (fun K hK => ?_); go_simp)
    go_at_call 23; refine (MS.out _ HT.low).mono ?_; rintro e ws ⟨ma, mc, rfl, hm, hbq⟩; have HT := HT.later hbq; have Hm := hm; clear hm; have Hc := Hc.below hbq; clear hbq
    (refine hK.out _ _ (HT.a.1) (fun hHeld => ?_); clear hK K; (try simp only [Act.put, List.setIfInBounds_toArray, List.set_cons_zero, List.set_cons_succ]))
    (refine held_call 9 rfl (by kernel_rfl) (fun K hK => ?_); go_simp)
    go_at_call 79; refine (ref1_SameB _ _ [⟨#[67]⟩] _ Hm.a Hc.a).mono ?_; rintro e wt ⟨rfl, hbq⟩; have HT := HT.later hbq; clear hbq
    (refine hK.out _ _ (HT.a.1) (fun hHeld => ?_); clear hK K; (try simp only [Act.put, List.setIfInBounds_toArray, List.set_cons_zero, List.set_cons_succ]))
    (refine held_yes (v := ?_) 10 rfl (by kernel_rfl) (by kernel_rfl) (by kernel_rfl) (fun _ _ _ h => h) (by rfl) (by assumption) ?_ ?_; rotate_left; (focus ((intro w hSw); (try dsimp only at hSw); go_simp; (try with_reducible rfl))); (try simp only [Act.put, List.setIfInBounds_toArray, List.set_cons_zero, List.set_cons_succ])); (refine held_yes (v := ?_) 11 rfl (by kernel_rfl) (by kernel_rfl) (by kernel_rfl) (fun _ _ _ h => h) (by rfl) (by assumption) ?_ ?_; rotate_left; (focus ((intro w hSw); (try dsimp only at hSw); go_simp; (try with_reducible rfl))); (try simp only [Act.put, List.setIfInBounds_toArray, List.set_cons_zero, List.set_cons_succ])); (refine held_yes (v := ?_) 12 rfl (by kernel_rfl) (by kernel_rfl) (by kernel_rfl) (fun _ _ _ h => h) (by rfl) (by assumption) ?_ ?_; rotate_left; (focus ((intro w hSw); (try dsimp only at hSw); go_simp; (try with_reducible rfl))); (try simp only [Act.put, List.setIfInBounds_toArray, List.set_cons_zero, List.set_cons_succ]))
    (refine held_call 13 rfl (by kernel_rfl) (fun K hK => ?_); go_simp)
    go_at_call 78; refine (RO.out _ _).mono ?_; rintro e wu ⟨rfl, hbq⟩; have HT := HT.later hbq; clear hbq
    (refine hK.out _ _ (HT.a.1) (fun hHeld => ?_); clear hK K; (try simp only [Act.put, List.setIfInBounds_toArray, List.set_cons_zero, List.set_cons_succ]))
    (refine held_call 14 rfl (by kernel_rfl) (fun K hK => ?_); go_simp)
    go_at_call 23; refine (MR.out _ HT.low).mono ?_; rintro e wv ⟨ra, rc, rfl, _, hbq⟩; have HT := HT.later hbq; clear hbq
    (refine hK.out _ _ (HT.a.1) (fun hHeld => ?_); clear hK K; (try simp only [Act.put, List.setIfInBounds_toArray, List.set_cons_zero, List.set_cons_succ]))
    (refine held_yes (v := ?_) 15 rfl (by kernel_rfl) (by kernel_rfl) (by kernel_rfl) (fun _ _ _ h => h) (by rfl) (by assumption) ?_ ?_; rotate_left; (focus ((intro w hSw); (try dsimp only at hSw); go_simp; (try with_reducible rfl))); (try simp only [Act.put, List.setIfInBounds_toArray, List.set_cons_zero, List.set_cons_succ])); (refine held_yes (v := ?_) 16 rfl (by kernel_rfl) (by kernel_rfl) (by kernel_rfl) (fun _ _ _ h => h) (by rfl) (by assumption) ?_ ?_; rotate_left; (focus ((intro w hSw); (try dsimp only at hSw); go_simp; (try with_reducible rfl))); (try simp only [Act.put, List.setIfInBounds_toArray, List.set_cons_zero, List.set_cons_succ])); (refine held_yes (v := ?_) 17 rfl (by kernel_rfl) (by kernel_rfl) (by kernel_rfl) (fun _ _ _ h => h) (by rfl) (by assumption) ?_ ?_; rotate_left; (focus ((intro w hSw); (try dsimp only at hSw); go_simp; (try with_reducible rfl))); (try simp only [Act.put, List.setIfInBounds_toArray, List.set_cons_zero, List.set_cons_succ])); (refine held_yes (v := ?_) 18 rfl (by kernel_rfl) (by kernel_rfl) (by kernel_rfl) (fun _ _ _ h => h) (by rfl) (by assumption) ?_ ?_; rotate_left; (focus ((intro w hSw); (try dsimp only at hSw); go_simp; (try with_reducible rfl))); (try simp only [Act.put, List.setIfInBounds_toArray, List.set_cons_zero, List.set_cons_succ])); (refine held_yes (v := ?_) 19 rfl (by kernel_rfl) (by kernel_rfl) (by kernel_rfl) (fun _ _ _ h => h) (by rfl) (by assumption) ?_ ?_; rotate_left; (focus ((intro w hSw); (try dsimp only at hSw); go_simp; (try with_reducible rfl))); (try simp only [Act.put, List.setIfInBounds_toArray, List.set_cons_zero, List.set_cons_succ]))
    (refine held_call 20 rfl (by kernel_rfl) (fun K hK => ?_); go_simp)
    go_at_call 80; refine (SP.out _ HT.low).mono ?_; rintro e wx ⟨st, rfl, hst, hbq⟩; have HT := HT.later hbq; clear hbq
    (refine hK.out _ _ (HT.a.1) (fun hHeld => ?_); clear hK K; (try simp only [Act.put, List.setIfInBounds_toArray, List.set_cons_zero, List.set_cons_succ]))
    (refine held_yes (v := ?_) 21 rfl (by kernel_rfl) (by kernel_rfl) (by kernel_rfl) (fun _ _ _ h => h) (by rfl) (by assumption) ?_ ?_; rotate_left; (focus ((intro w hSw); (try dsimp only at hSw); go_simp; (try with_reducible rfl))); (try simp only [Act.put, List.setIfInBounds_toArray, List.set_cons_zero, List.set_cons_succ])); (refine held_yes (v := ?_) 22 rfl (by kernel_rfl) (by kernel_rfl) (by kernel_rfl) (fun _ _ _ h => h) (by rfl) (by assumption) ?_ ?_; rotate_left; (focus ((intro w hSw); (try dsimp only at hSw); go_simp; (try with_reducible rfl))); (try simp only [Act.put, List.setIfInBounds_toArray, List.set_cons_zero, List.set_cons_succ]))
    (refine held_yes (v := ?_) 23 rfl (by kernel_rfl) (by kernel_rfl) (by kernel_rfl) (fun _ _ _ h => h) (by rfl) (by assumption) ?_ ?_; rotate_left; (focus ((intro w hSw); (try dsimp only at hSw); go_simp; (try with_reducible rfl))); (try simp only [Act.put, List.setIfInBounds_toArray, List.set_cons_zero]))
    refine wpAnyH_done (by kernel_rfl) ?_ _
    have HZ := Lib.hid (HB.out.trans (HT.low.mono HB.out.size))
    clear HT
    go_wp2_with fail
    go_ret
    exact ⟨by first | rfl | (have hp := of_decide_eq_true hst; simp; omega), HZ.out⟩
end Go.Proofs.YtcmdhfccdkjenaaGreatDoor
namespace Go.Proofs.YtcmdhfccdkjenaaGreatDoor
open Go.RowKit Go.Shelf

theorem sortR_row (va : Value) (l : List Rl) (w : World) (ha : SlA w 2 va l.length (l.flatMap Rl.cells)) (hl : l.length ≤ 1000) :
    Calls Tryz.prog 76 #[va] w fun e w' => ∃ v, e = .returned v ∧ Sl w' 2 v (insAllR [] l).length ((insAllR [] l).flatMap Rl.cells) ∧ Below w.heap.size w w' := ref5_Sort va l w ha hl

end Go.Proofs.YtcmdhfccdkjenaaGreatDoor
