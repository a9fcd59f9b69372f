/- table.Table.Rule (printed by gen_tabrule.py). The reference's rows of texts, and numbers: crupperref01.Has, Put, New; crupperref06.Place, Role (printed by gen_reftab.py). -/
import Derived.Test.YthickpocfplcoaaPart8
import Derived.Test.YthickpocfplcoaaPart6
namespace Go.Proofs.Ythickpocfplcoaa
open Go.RowKit Go.Shelf

theorem ruleN_no {a b : List ByteArray} {s : St} (h : rightS s = false) : ruleN a b s = (noRu, false) := by unfold ruleN; rw [if_neg (fun h' => by rw [h] at h'; exact Bool.false_ne_true h'.1)]
theorem ruleN_bad {a b : List ByteArray} {s : St} (h : ruleOk (ruleR a b s) = false) : ruleN a b s = (noRu, false) := by unfold ruleN; rw [if_neg (fun h' => by rw [h] at h'; exact Bool.false_ne_true h'.2)]
theorem ruleN_ok {a b : List ByteArray} {s : St} (h : rightS s = true) (h' : ruleOk (ruleR a b s) = true) : ruleN a b s = (ruleR a b s, true) := by unfold ruleN; rw [if_pos ⟨h, h'⟩]
theorem run_min5 {P : Program} (ts : Array TypeId) (t : TypeId) (x0 x1 x2 x3 x4 : Int) : ∃ m, (∀ w, (Builtin.min_ ts t #[.int .i64 x0, .int .i64 x1, .int .i64 x2, .int .i64 x3, .int .i64 x4]).run P w = .ok (.int .i64 m) w) ∧ decide (m < 0) = !decide (0 ≤ x0 ∧ 0 ≤ x1 ∧ 0 ≤ x2 ∧ 0 ≤ x3 ∧ 0 ≤ x4) := by
  obtain ⟨m1, h1⟩ : ∃ m, m = if x1 < x0 then x1 else x0 := ⟨_, rfl⟩
  obtain ⟨m2, h2⟩ : ∃ m, m = if x2 < m1 then x2 else m1 := ⟨_, rfl⟩
  obtain ⟨m3, h3⟩ : ∃ m, m = if x3 < m2 then x3 else m2 := ⟨_, rfl⟩
  obtain ⟨m4, h4⟩ : ∃ m, m = if x4 < m3 then x4 else m3 := ⟨_, rfl⟩
  refine ⟨m4, fun w => ?_, ?_⟩
  · simp [Builtin.min_, Builtin.min2, ← h1, ← h2, ← h3, ← h4]
  · rw [Bool.eq_iff_iff, decide_eq_true_iff, Bool.not_eq_true', decide_eq_false_iff_not]
    split at h1 <;> split at h2 <;> split at h3 <;> split at h4 <;> omega
theorem TwoAt.new' (w : World) (A B : Array Value) (t u : TypeId) : TwoAt w A B ((w.alloc (.cells A t)).alloc (.cells B u)) :=
  ⟨(Blk.new w A t).alloc _, by have := Blk.new (w.alloc (.cells A t)) B u; simpa using this, ((Below.refl _ _).alloc (Nat.le_refl _) _).alloc (by simp) _⟩

set_option maxRecDepth 100000 in
set_option maxHeartbeats 16000000 in
theorem table_Rule {t ba bb : Nat} {a b : List ByteArray} {w : World} (h : TblAt w t ba bb a b) (s : St) (hs : s.le 4294967) :
    Calls Try.prog 11 #[.pointer (some ⟨t, 0, none⟩), sv s] w fun e w' => e = .returned (.tuple #[ruv (ruleN a b s).1, .bool (ruleN a b s).2]) ∧ Below w.heap.size w w' := by
  have SR := Lib.hid (fun W => syn_Right s W hs)
  have RO := Lib.hid (fun r W (hb : Below w.heap.size w W) => table_Role (h.below hb) r)
  have PR := Lib.hid (fun W (hb : Below w.heap.size w W) => table_Prins (h.below hb))
  have LK := Lib.hid (fun W (hb : Below w.heap.size w W) => table_Links (h.below hb))
  have FA := Lib.hid (fun s W (hb : Below w.heap.size w W) => tab_Find ba a s W (h.ta.below hb) h.sa (by have := h.na; omega))
  have FB := Lib.hid (fun s W (hb : Below w.heap.size w W) => tab_Find bb b s W (h.tb.below hb) h.sb (by have := h.nb; omega))
  clear h
  obtain ⟨k, ⟨h1, h2⟩, who, ⟨s1, s2⟩, ⟨s3, s4⟩, via⟩ := s
  have HT := Lib.hid (TwoAt.new' w #[.int .i64 k, .string h1, .string h2, .string who, .string s1, .string s2, .string s3, .string s4, .string via] #[.int .i64 0, .int .i64 0, .int .i64 0, .int .i64 0, .int .i64 0, .int .i64 0] 26 34)
  cases hr : rightS ⟨k, ⟨h1, h2⟩, who, ⟨s1, s2⟩, ⟨s3, s4⟩, via⟩ with
  | false =>
    have R := Lib.hid (ruleN_no (a := a) (b := b) hr)
    rw [hr] at SR
    clear hr
    go_enter Try.func11, Try.ntmps11
    go_wp2_with fail
    refine (SR.out _).mono ?_
    rintro e w1 ⟨rfl, hb⟩
    have HT := Lib.hid (HT.out.later hb)
    clear hb
    obtain ⟨cb, fb, zb⟩ := HT.out.b
    go_wp2
    refine bodyPost_ret (v := .tuple #[ruv noRu, .bool false]) (by simp [results, Try.results11, go_sem, noRu, cb]) rfl ⟨by rw [R.out], ?_⟩
    exact below_puts (by omega) [.int .i64 0, .int .i64 0, .int .i64 0, .int .i64 0, .int .i64 0, .int .i64 0] 0 w1 HT.out.low
  | true =>
  rw [hr] at SR
  have RR := Lib.hid (ruleN_ok (a := a) (b := b) hr)
  have RB := Lib.hid (ruleN_bad (a := a) (b := b) (s := ⟨k, ⟨h1, h2⟩, who, ⟨s1, s2⟩, ⟨s3, s4⟩, via⟩))
  have HR := Lib.hid hr
  clear hr
  go_enter Try.func11, Try.ntmps11
  go_wp2_with fail
  refine (SR.out _).mono ?_
  rintro e w1 ⟨rfl, hb⟩
  have HT := Lib.hid (HT.out.later hb)
  clear hb SR
  have RH := Lib.hid (fun W hb => RO.out ⟨h1, h2⟩ W hb)
  obtain ⟨rh, hrh⟩ : ∃ r, r = roleN a b ⟨h1, h2⟩ := ⟨_, rfl⟩
  rw [← hrh] at RH
  have HRH := Lib.hid hrh
  clear hrh
  go_upto_region 4 with fail
  go_cut [6] (fun s6 wx => ∃ b6 : Nat, s6 = .pointer (some ⟨b6, 0, none⟩) ∧ w.heap.size + 1 < b6 ∧ Hid (TwoAt w #[.int .i64 k, .string h1, .string h2, .string who, .string s1, .string s2, .string s3, .string s4, .string via] #[.int .i64 0, .int .i64 0, .int .i64 0, .int .i64 0, .int .i64 0, .int .i64 0] wx) ∧ Hid (Blk wx b6 #[.int .i64 k, .int .i64 rh, .int .i64 0, .int .i64 0, .int .i64 0, .int .i64 0]))
  case first =>
    have HT := HT.out
    obtain ⟨ca, fa, za⟩ := HT.a
    go_wp2_with fail
    clear ca fa za
    refine wp_region_held_drew (S := (fun W => ∀ o, W.cell? ⟨w.heap.size, o, none⟩ = (#[.int .i64 k, .string h1, .string h2, .string who, .string s1, .string s2, .string s3, .string s4, .string via] : Array Value)[o]?)) (by kernel_rfl) HT.drew.a.1 (fun hHeld => ?_)
    have HT := HT.drew
    obtain ⟨wk, hwk⟩ : ∃ W, W = w1.drew := ⟨_, rfl⟩
    rw [← hwk] at HT hHeld ⊢
    clear hwk
    (refine held_yes (v := ?_) 0 rfl (by kernel_rfl) (by kernel_rfl) (by kernel_rfl) (fun _ _ _ h => h) (by rfl) (by assumption) ?_ ?_; rotate_left; (focus ((intro w hSw); (try dsimp only at hSw); go_simp; (try with_reducible rfl))); (try simp only [Act.put, List.setIfInBounds_toArray, List.set_cons_zero, List.set_cons_succ])); (refine held_yes (v := ?_) 1 rfl (by kernel_rfl) (by kernel_rfl) (by kernel_rfl) (fun _ _ _ h => h) (by rfl) (by assumption) ?_ ?_; rotate_left; (focus ((intro w hSw); (try dsimp only at hSw); go_simp; (try with_reducible rfl))); (try simp only [Act.put, List.setIfInBounds_toArray, List.set_cons_zero, List.set_cons_succ])); (refine held_yes (v := ?_) 2 rfl (by kernel_rfl) (by kernel_rfl) (by kernel_rfl) (fun _ _ _ h => h) (by rfl) (by assumption) ?_ ?_; rotate_left; (focus ((intro w hSw); (try dsimp only at hSw); go_simp; (try with_reducible rfl))); (try simp only [Act.put, List.setIfInBounds_toArray, List.set_cons_zero, List.set_cons_succ])); (refine held_yes (v := ?_) 3 rfl (by kernel_rfl) (by kernel_rfl) (by kernel_rfl) (fun _ _ _ h => h) (by rfl) (by assumption) ?_ ?_; rotate_left; (focus ((intro w hSw); (try dsimp only at hSw); go_simp; (try with_reducible rfl))); (try simp only [Act.put, List.setIfInBounds_toArray, List.set_cons_zero, List.set_cons_succ])); (refine held_yes (v := ?_) 4 rfl (by kernel_rfl) (by kernel_rfl) (by kernel_rfl) (fun _ _ _ h => h) (by rfl) (by assumption) ?_ ?_; rotate_left; (focus ((intro w hSw); (try dsimp only at hSw); go_simp; (try with_reducible rfl))); (try simp only [Act.put, List.setIfInBounds_toArray, List.set_cons_zero, List.set_cons_succ]))
    refine wpAnyH_ready (rs := [5, 7]) (by kernel_rfl) (by simp) (AllReadyH.cons rfl (fun K hK => ?_) (AllReadyH.cons rfl (fun K hK => ?_) AllReadyH.nil))
    · go_simp
      go_at_call 13; refine (RH.out _ HT.low).mono ?_; rintro e wk1 ⟨rfl, hbq⟩
      have HT := HT.later hbq
      clear hbq
      (refine hK.out _ _ (HT.a.1) (fun hHeld => ?_); clear hK K; (try simp only [Act.put, List.setIfInBounds_toArray, List.set_cons_zero, List.set_cons_succ]))
      (refine held_yes (v := ?_) 6 rfl (by kernel_rfl) (by kernel_rfl) (by kernel_rfl) (fun _ _ _ h => h) (by rfl) (by assumption) ?_ ?_; rotate_left; (focus ((intro w hSw); (try dsimp only at hSw); go_simp; (try with_reducible rfl))); (try simp only [Act.put, List.setIfInBounds_toArray, List.set_cons_zero, List.set_cons_succ]))
      (refine held_call 7 rfl (by kernel_rfl) (fun K hK => ?_); go_simp)
      obtain ⟨b6, hb6⟩ : ∃ b, b = wk1.heap.size := ⟨_, rfl⟩
      obtain ⟨wk2, hwn⟩ : ∃ V, V = wk1.alloc (.cells #[.int .i64 0, .int .i64 0, .int .i64 0, .int .i64 0, .int .i64 0, .int .i64 0] 34) := ⟨_, rfl⟩
      rw [← hwn, ← hb6]
      have H6 : Blk wk2 b6 #[.int .i64 0, .int .i64 0, .int .i64 0, .int .i64 0, .int .i64 0, .int .i64 0] := by rw [hwn, hb6]; exact Blk.new _ _ _
      have lo6 : w.heap.size + 1 < b6 := by rw [hb6]; exact HT.b.2.2
      have HT : TwoAt w #[.int .i64 k, .string h1, .string h2, .string who, .string s1, .string s2, .string s3, .string s4, .string via] #[.int .i64 0, .int .i64 0, .int .i64 0, .int .i64 0, .int .i64 0, .int .i64 0] wk2 := by rw [hwn]; exact HT.alloc _
      clear hwn hb6
      (refine hK.out _ _ (HT.a.1) (fun hHeld => ?_); clear hK K; (try simp only [Act.put, List.setIfInBounds_toArray, List.set_cons_zero, List.set_cons_succ]))
      have Hc := H6
      obtain ⟨cs, fs, zs⟩ := Hc
      (refine held_call 8 rfl (by kernel_rfl) (fun K hK => ?_); go_simp)
      clear cs fs zs
      generalize hw : ((((((wk2.setCell ⟨b6, 0, none⟩ (.int .i64 k)).setCell ⟨b6, 1, none⟩ (.int .i64 rh)).setCell ⟨b6, 2, none⟩ (.int .i64 0)).setCell ⟨b6, 3, none⟩ (.int .i64 0)).setCell ⟨b6, 4, none⟩ (.int .i64 0)).setCell ⟨b6, 5, none⟩ (.int .i64 0)) = wn
      have H6 : Blk wn b6 #[.int .i64 k, .int .i64 rh, .int .i64 0, .int .i64 0, .int .i64 0, .int .i64 0] := by rw [← hw]; simpa using ((((((H6.put (o := 0) (v := .int .i64 k) (by simp)).put (o := 1) (v := .int .i64 rh) (by simp)).put (o := 2) (v := .int .i64 0) (by simp)).put (o := 3) (v := .int .i64 0) (by simp)).put (o := 4) (v := .int .i64 0) (by simp)).put (o := 5) (v := .int .i64 0) (by simp))
      have HT : TwoAt w #[.int .i64 k, .string h1, .string h2, .string who, .string s1, .string s2, .string s3, .string s4, .string via] #[.int .i64 0, .int .i64 0, .int .i64 0, .int .i64 0, .int .i64 0, .int .i64 0] wn := by
        rw [← hw]
        exact ⟨HT.a.puts_far (g := b6) (by omega) [.int .i64 k, .int .i64 rh, .int .i64 0, .int .i64 0, .int .i64 0, .int .i64 0] 0 wk2, HT.b.puts_far (g := b6) (by omega) [.int .i64 k, .int .i64 rh, .int .i64 0, .int .i64 0, .int .i64 0, .int .i64 0] 0 wk2, below_puts (by omega) [.int .i64 k, .int .i64 rh, .int .i64 0, .int .i64 0, .int .i64 0, .int .i64 0] 0 wk2 HT.low⟩
      clear hw
      (refine hK.out _ _ (HT.a.1) (fun hHeld => ?_); clear hK K; (try simp only [Act.put, List.setIfInBounds_toArray, List.set_cons_zero, List.set_cons_succ]))
      refine wpAnyH_done (by kernel_rfl) ?_ _
      go_wp2_with fail
      go_meet
      exact ⟨b6, rfl, lo6, Lib.hid HT, Lib.hid H6⟩
    · go_simp
      obtain ⟨b6, hb6⟩ : ∃ b, b = wk.heap.size := ⟨_, rfl⟩
      obtain ⟨wk1, hwn⟩ : ∃ V, V = wk.alloc (.cells #[.int .i64 0, .int .i64 0, .int .i64 0, .int .i64 0, .int .i64 0, .int .i64 0] 34) := ⟨_, rfl⟩
      rw [← hwn, ← hb6]
      have H6 : Blk wk1 b6 #[.int .i64 0, .int .i64 0, .int .i64 0, .int .i64 0, .int .i64 0, .int .i64 0] := by rw [hwn, hb6]; exact Blk.new _ _ _
      have lo6 : w.heap.size + 1 < b6 := by rw [hb6]; exact HT.b.2.2
      have HT : TwoAt w #[.int .i64 k, .string h1, .string h2, .string who, .string s1, .string s2, .string s3, .string s4, .string via] #[.int .i64 0, .int .i64 0, .int .i64 0, .int .i64 0, .int .i64 0, .int .i64 0] wk1 := by rw [hwn]; exact HT.alloc _
      clear hwn hb6
      (refine hK.out _ _ (HT.a.1) (fun hHeld => ?_); clear hK K; (try simp only [Act.put, List.setIfInBounds_toArray, List.set_cons_zero, List.set_cons_succ]))
      (refine held_call 5 rfl (by kernel_rfl) (fun K hK => ?_); go_simp)
      go_at_call 13; refine (RH.out _ HT.low).mono ?_; rintro e wk2 ⟨rfl, hbq⟩
      have H6 := H6.below hbq
      have HT := HT.later hbq
      clear hbq
      (refine hK.out _ _ (HT.a.1) (fun hHeld => ?_); clear hK K; (try simp only [Act.put, List.setIfInBounds_toArray, List.set_cons_zero, List.set_cons_succ]))
      (refine held_yes (v := ?_) 6 rfl (by kernel_rfl) (by kernel_rfl) (by kernel_rfl) (fun _ _ _ h => h) (by rfl) (by assumption) ?_ ?_; rotate_left; (focus ((intro w hSw); (try dsimp only at hSw); go_simp; (try with_reducible rfl))); (try simp only [Act.put, List.setIfInBounds_toArray, List.set_cons_zero, List.set_cons_succ]))
      have Hc := H6
      obtain ⟨cs, fs, zs⟩ := Hc
      (refine held_call 8 rfl (by kernel_rfl) (fun K hK => ?_); go_simp)
      clear cs fs zs
      generalize hw : ((((((wk2.setCell ⟨b6, 0, none⟩ (.int .i64 k)).setCell ⟨b6, 1, none⟩ (.int .i64 rh)).setCell ⟨b6, 2, none⟩ (.int .i64 0)).setCell ⟨b6, 3, none⟩ (.int .i64 0)).setCell ⟨b6, 4, none⟩ (.int .i64 0)).setCell ⟨b6, 5, none⟩ (.int .i64 0)) = wn
      have H6 : Blk wn b6 #[.int .i64 k, .int .i64 rh, .int .i64 0, .int .i64 0, .int .i64 0, .int .i64 0] := by rw [← hw]; simpa using ((((((H6.put (o := 0) (v := .int .i64 k) (by simp)).put (o := 1) (v := .int .i64 rh) (by simp)).put (o := 2) (v := .int .i64 0) (by simp)).put (o := 3) (v := .int .i64 0) (by simp)).put (o := 4) (v := .int .i64 0) (by simp)).put (o := 5) (v := .int .i64 0) (by simp))
      have HT : TwoAt w #[.int .i64 k, .string h1, .string h2, .string who, .string s1, .string s2, .string s3, .string s4, .string via] #[.int .i64 0, .int .i64 0, .int .i64 0, .int .i64 0, .int .i64 0, .int .i64 0] wn := by
        rw [← hw]
        exact ⟨HT.a.puts_far (g := b6) (by omega) [.int .i64 k, .int .i64 rh, .int .i64 0, .int .i64 0, .int .i64 0, .int .i64 0] 0 wk2, HT.b.puts_far (g := b6) (by omega) [.int .i64 k, .int .i64 rh, .int .i64 0, .int .i64 0, .int .i64 0, .int .i64 0] 0 wk2, below_puts (by omega) [.int .i64 k, .int .i64 rh, .int .i64 0, .int .i64 0, .int .i64 0, .int .i64 0] 0 wk2 HT.low⟩
      clear hw
      (refine hK.out _ _ (HT.a.1) (fun hHeld => ?_); clear hK K; (try simp only [Act.put, List.setIfInBounds_toArray, List.set_cons_zero, List.set_cons_succ]))
      refine wpAnyH_done (by kernel_rfl) ?_ _
      go_wp2_with fail
      go_meet
      exact ⟨b6, rfl, lo6, Lib.hid HT, Lib.hid H6⟩
  case rest =>
    clear HT RH
    obtain ⟨b6, rfl, lo6, HT, H6⟩ := hcut
    rename World => wc
    have HT := HT.out
    have H6 := H6.out
    by_cases hk : k = 1
    · skip
      subst hk
      obtain ⟨ca, fa, za⟩ := HT.a
      go_wp2_with fail
      obtain ⟨pw, hpw⟩ : ∃ x, x = placeB a who := ⟨_, rfl⟩
      have FW := Lib.hid (fun W hb => FA.out who W hb)
      rw [← hpw] at FW
      have RV : ruleR a b ⟨1, ⟨h1, h2⟩, who, ⟨s1, s2⟩, ⟨s3, s4⟩, via⟩ = ⟨1, rh, pw, 0, 0, 0⟩ := by unfold ruleR; simp [HRH.out, hpw]
      clear ca fa za hpw
      refine wp_region_held_drew (S := (fun W => ∀ o, W.cell? ⟨w.heap.size, o, none⟩ = (#[.int .i64 1, .string h1, .string h2, .string who, .string s1, .string s2, .string s3, .string s4, .string via] : Array Value)[o]?)) (by kernel_rfl) HT.drew.a.1 (fun hHeld => ?_)
      have HT := HT.drew
      have H6 := H6.below (below_drew (Below.refl _ _))
      obtain ⟨wk, hwk⟩ : ∃ W, W = wc.drew := ⟨_, rfl⟩
      rw [← hwk] at HT H6 hHeld ⊢
      clear hwk
      (refine held_yes (v := ?_) 0 rfl (by kernel_rfl) (by kernel_rfl) (by kernel_rfl) (fun _ _ _ h => h) (by rfl) (by assumption) ?_ ?_; rotate_left; (focus ((intro w hSw); (try dsimp only at hSw); go_simp; (try with_reducible rfl))); (try simp only [Act.put, List.setIfInBounds_toArray, List.set_cons_zero, List.set_cons_succ])); (refine held_yes (v := ?_) 2 rfl (by kernel_rfl) (by kernel_rfl) (by kernel_rfl) (fun _ _ _ h => h) (by rfl) (by assumption) ?_ ?_; rotate_left; (focus ((intro w hSw); (try dsimp only at hSw); go_simp; (try with_reducible rfl))); (try simp only [Act.put, List.setIfInBounds_toArray, List.set_cons_zero, List.set_cons_succ])); (refine held_yes (v := ?_) 3 rfl (by kernel_rfl) (by kernel_rfl) (by kernel_rfl) (fun _ _ _ h => h) (by rfl) (by assumption) ?_ ?_; rotate_left; (focus ((intro w hSw); (try dsimp only at hSw); go_simp; (try with_reducible rfl))); (try simp only [Act.put, List.setIfInBounds_toArray, List.set_cons_zero, List.set_cons_succ]))
      (refine held_call 1 rfl (by kernel_rfl) (fun K hK => ?_); go_simp)
      go_at_call 16; refine (PR.out _ HT.low).mono ?_; rintro e wq ⟨rfl, rfl⟩
      (refine hK.out _ _ (HT.a.1) (fun hHeld => ?_); clear hK K; (try simp only [Act.put, List.setIfInBounds_toArray, List.set_cons_zero, List.set_cons_succ]))
      (refine held_call 4 rfl (by kernel_rfl) (fun K hK => ?_); go_simp)
      go_at_call 36; refine (FW.out _ HT.low).mono ?_; rintro e wq ⟨rfl, rfl⟩
      (refine hK.out _ _ (HT.a.1) (fun hHeld => ?_); clear hK K; (try simp only [Act.put, List.setIfInBounds_toArray, List.set_cons_zero, List.set_cons_succ]))
      (refine held_yes (v := ?_) 5 rfl (by kernel_rfl) (by kernel_rfl) (by kernel_rfl) (fun _ _ _ h => h) (by rfl) (by assumption) ?_ ?_; rotate_left; (focus ((intro w hSw); (try dsimp only at hSw); go_simp; (try with_reducible rfl))); (try simp only [Act.put, List.setIfInBounds_toArray, List.set_cons_zero, List.set_cons_succ]))
      have Hc := H6
      obtain ⟨cs, fs, zs⟩ := Hc
      (refine held_call 6 rfl (by kernel_rfl) (fun K hK => ?_); go_simp)
      clear cs fs zs
      generalize hw : (wq.setCell ⟨b6, 2, none⟩ (.int .i64 pw)) = wn
      have H6 : Blk wn b6 #[.int .i64 1, .int .i64 rh, .int .i64 pw, .int .i64 0, .int .i64 0, .int .i64 0] := by rw [← hw]; simpa using (H6.put (o := 2) (v := .int .i64 pw) (by simp))
      have HT : TwoAt w #[.int .i64 1, .string h1, .string h2, .string who, .string s1, .string s2, .string s3, .string s4, .string via] #[.int .i64 0, .int .i64 0, .int .i64 0, .int .i64 0, .int .i64 0, .int .i64 0] wn := by rw [← hw]; exact ⟨(HT.a.far (by omega)), (HT.b.far (by omega)), (below_put HT.low (by omega))⟩
      clear hw
      (refine hK.out _ _ (HT.a.1) (fun hHeld => ?_); clear hK K; (try simp only [Act.put, List.setIfInBounds_toArray, List.set_cons_zero, List.set_cons_succ]))
      refine wpAnyH_done (by kernel_rfl) ?_ _
      have HT := Lib.hid HT
      obtain ⟨cs, fs, zs⟩ := H6
      obtain ⟨mn, hmn, hmd0⟩ := run_min5 (P := Try.prog) #[3, 3, 3, 3, 3] 3 rh pw 0 0 0
      have hmd : decide (mn < 0) = !ruleOk ⟨1, rh, pw, 0, 0, 0⟩ := hmd0
      clear hmd0
      cases hok : ruleOk ⟨1, rh, pw, 0, 0, 0⟩ with
      | false =>
        have R := Lib.hid (RB.out (by rw [RV]; exact hok))
        have d : decide (mn < 0) = true := by rw [hmd, hok]; rfl
        obtain ⟨cb, fb, zb⟩ := HT.out.b
        clear hmd hok RV
        go_wp2
        refine bodyPost_ret (v := .tuple #[ruv noRu, .bool false]) (by simp [results, Try.results11, go_sem, noRu, cb]) rfl ⟨by rw [R.out], ?_⟩
        exact below_puts (by omega) [.int .i64 0, .int .i64 0, .int .i64 0, .int .i64 0, .int .i64 0, .int .i64 0] 0 wn HT.out.low
      | true =>
        have R := Lib.hid (RR.out (by rw [RV]; exact hok))
        have d : decide (mn < 0) = false := by rw [hmd, hok]; rfl
        have RV := Lib.hid RV
        obtain ⟨cb, fb, zb⟩ := HT.out.b
        clear hmd hok
        go_wp2
        refine bodyPost_ret (v := .tuple #[ruv ⟨1, rh, pw, 0, 0, 0⟩, .bool true]) (by simp [results, Try.results11, go_sem, cb]) rfl ⟨by rw [R.out, RV.out], ?_⟩
        exact below_puts (by omega) [.int .i64 1, .int .i64 rh, .int .i64 pw, .int .i64 0, .int .i64 0, .int .i64 0] 0 wn HT.out.low
    have n1 := hk
    clear hk
    by_cases hk : k = 2
    · skip
      subst hk
      obtain ⟨ca, fa, za⟩ := HT.a
      go_wp2_with fail
      obtain ⟨ra, hra⟩ : ∃ x, x = roleN a b ⟨s1, s2⟩ := ⟨_, rfl⟩
      have RA := Lib.hid (fun W hb => RO.out ⟨s1, s2⟩ W hb)
      rw [← hra] at RA
      have RV : ruleR a b ⟨2, ⟨h1, h2⟩, who, ⟨s1, s2⟩, ⟨s3, s4⟩, via⟩ = ⟨2, rh, 0, ra, 0, 0⟩ := by unfold ruleR; simp [HRH.out, hra]
      clear hra
      refine (RA.out _ HT.low).mono ?_
      rintro e wq2 ⟨rfl, hb⟩
      have HT := HT.later hb
      have H6 := H6.below hb
      clear hb ca fa za
      have Hc := H6
      obtain ⟨cs, fs, zs⟩ := Hc
      go_upto_region 13 with fail
      clear cs fs zs
      generalize hw : (wq2.setCell ⟨b6, 3, none⟩ (.int .i64 ra)) = wn
      have H6 : Blk wn b6 #[.int .i64 2, .int .i64 rh, .int .i64 0, .int .i64 ra, .int .i64 0, .int .i64 0] := by rw [← hw]; simpa using (H6.put (o := 3) (v := .int .i64 ra) (by simp))
      have HT : TwoAt w #[.int .i64 2, .string h1, .string h2, .string who, .string s1, .string s2, .string s3, .string s4, .string via] #[.int .i64 0, .int .i64 0, .int .i64 0, .int .i64 0, .int .i64 0, .int .i64 0] wn := by rw [← hw]; exact ⟨(HT.a.far (by omega)), (HT.b.far (by omega)), (below_put HT.low (by omega))⟩
      clear hw
      have HT := Lib.hid HT
      obtain ⟨cs, fs, zs⟩ := H6
      obtain ⟨mn, hmn, hmd0⟩ := run_min5 (P := Try.prog) #[3, 3, 3, 3, 3] 3 rh 0 ra 0 0
      have hmd : decide (mn < 0) = !ruleOk ⟨2, rh, 0, ra, 0, 0⟩ := hmd0
      clear hmd0
      cases hok : ruleOk ⟨2, rh, 0, ra, 0, 0⟩ with
      | false =>
        have R := Lib.hid (RB.out (by rw [RV]; exact hok))
        have d : decide (mn < 0) = true := by rw [hmd, hok]; rfl
        obtain ⟨cb, fb, zb⟩ := HT.out.b
        clear hmd hok RV
        go_wp2
        refine bodyPost_ret (v := .tuple #[ruv noRu, .bool false]) (by simp [results, Try.results11, go_sem, noRu, cb]) rfl ⟨by rw [R.out], ?_⟩
        exact below_puts (by omega) [.int .i64 0, .int .i64 0, .int .i64 0, .int .i64 0, .int .i64 0, .int .i64 0] 0 wn HT.out.low
      | true =>
        have R := Lib.hid (RR.out (by rw [RV]; exact hok))
        have d : decide (mn < 0) = false := by rw [hmd, hok]; rfl
        have RV := Lib.hid RV
        obtain ⟨cb, fb, zb⟩ := HT.out.b
        clear hmd hok
        go_wp2
        refine bodyPost_ret (v := .tuple #[ruv ⟨2, rh, 0, ra, 0, 0⟩, .bool true]) (by simp [results, Try.results11, go_sem, cb]) rfl ⟨by rw [R.out, RV.out], ?_⟩
        exact below_puts (by omega) [.int .i64 2, .int .i64 rh, .int .i64 0, .int .i64 ra, .int .i64 0, .int .i64 0] 0 wn HT.out.low
    have n2 := hk
    clear hk
    by_cases hk : k = 3
    · skip
      subst hk
      obtain ⟨ca, fa, za⟩ := HT.a
      go_wp2_with fail
      obtain ⟨ra, hra⟩ : ∃ x, x = roleN a b ⟨s1, s2⟩ := ⟨_, rfl⟩
      have RA := Lib.hid (fun W hb => RO.out ⟨s1, s2⟩ W hb)
      rw [← hra] at RA
      obtain ⟨pv, hpv⟩ : ∃ x, x = placeB b via := ⟨_, rfl⟩
      have FV := Lib.hid (fun W hb => FB.out via W hb)
      rw [← hpv] at FV
      have RV : ruleR a b ⟨3, ⟨h1, h2⟩, who, ⟨s1, s2⟩, ⟨s3, s4⟩, via⟩ = ⟨3, rh, 0, ra, 0, pv⟩ := by unfold ruleR; simp [HRH.out, hra, hpv]
      clear ca fa za hpv hra
      refine wp_region_held_drew (S := (fun W => ∀ o, W.cell? ⟨w.heap.size, o, none⟩ = (#[.int .i64 3, .string h1, .string h2, .string who, .string s1, .string s2, .string s3, .string s4, .string via] : Array Value)[o]?)) (by kernel_rfl) HT.drew.a.1 (fun hHeld => ?_)
      have HT := HT.drew
      have H6 := H6.below (below_drew (Below.refl _ _))
      obtain ⟨wk, hwk⟩ : ∃ W, W = wc.drew := ⟨_, rfl⟩
      rw [← hwk] at HT H6 hHeld ⊢
      clear hwk
      (refine held_yes (v := ?_) 0 rfl (by kernel_rfl) (by kernel_rfl) (by kernel_rfl) (fun _ _ _ h => h) (by rfl) (by assumption) ?_ ?_; rotate_left; (focus ((intro w hSw); (try dsimp only at hSw); go_simp; (try with_reducible rfl))); (try simp only [Act.put, List.setIfInBounds_toArray, List.set_cons_zero, List.set_cons_succ])); (refine held_yes (v := ?_) 1 rfl (by kernel_rfl) (by kernel_rfl) (by kernel_rfl) (fun _ _ _ h => h) (by rfl) (by assumption) ?_ ?_; rotate_left; (focus ((intro w hSw); (try dsimp only at hSw); go_simp; (try with_reducible rfl))); (try simp only [Act.put, List.setIfInBounds_toArray, List.set_cons_zero, List.set_cons_succ])); (refine held_yes (v := ?_) 2 rfl (by kernel_rfl) (by kernel_rfl) (by kernel_rfl) (fun _ _ _ h => h) (by rfl) (by assumption) ?_ ?_; rotate_left; (focus ((intro w hSw); (try dsimp only at hSw); go_simp; (try with_reducible rfl))); (try simp only [Act.put, List.setIfInBounds_toArray, List.set_cons_zero, List.set_cons_succ])); (refine held_yes (v := ?_) 4 rfl (by kernel_rfl) (by kernel_rfl) (by kernel_rfl) (fun _ _ _ h => h) (by rfl) (by assumption) ?_ ?_; rotate_left; (focus ((intro w hSw); (try dsimp only at hSw); go_simp; (try with_reducible rfl))); (try simp only [Act.put, List.setIfInBounds_toArray, List.set_cons_zero, List.set_cons_succ])); (refine held_yes (v := ?_) 6 rfl (by kernel_rfl) (by kernel_rfl) (by kernel_rfl) (fun _ _ _ h => h) (by rfl) (by assumption) ?_ ?_; rotate_left; (focus ((intro w hSw); (try dsimp only at hSw); go_simp; (try with_reducible rfl))); (try simp only [Act.put, List.setIfInBounds_toArray, List.set_cons_zero, List.set_cons_succ])); (refine held_yes (v := ?_) 7 rfl (by kernel_rfl) (by kernel_rfl) (by kernel_rfl) (fun _ _ _ h => h) (by rfl) (by assumption) ?_ ?_; rotate_left; (focus ((intro w hSw); (try dsimp only at hSw); go_simp; (try with_reducible rfl))); (try simp only [Act.put, List.setIfInBounds_toArray, List.set_cons_zero, List.set_cons_succ]))
      (refine held_call 3 rfl (by kernel_rfl) (fun K hK => ?_); go_simp)
      go_at_call 13; refine (RA.out _ HT.low).mono ?_; rintro e wq ⟨rfl, hbq⟩; have H6 := H6.below hbq; have HT := HT.later hbq; clear hbq
      (refine hK.out _ _ (HT.a.1) (fun hHeld => ?_); clear hK K; (try simp only [Act.put, List.setIfInBounds_toArray, List.set_cons_zero, List.set_cons_succ]))
      (refine held_yes (v := ?_) 9 rfl (by kernel_rfl) (by kernel_rfl) (by kernel_rfl) (fun _ _ _ h => h) (by rfl) (by assumption) ?_ ?_; rotate_left; (focus ((intro w hSw); (try dsimp only at hSw); go_simp; (try with_reducible rfl))); (try simp only [Act.put, List.setIfInBounds_toArray, List.set_cons_zero, List.set_cons_succ]))
      (refine held_call 5 rfl (by kernel_rfl) (fun K hK => ?_); go_simp)
      go_at_call 18; refine (LK.out _ HT.low).mono ?_; rintro e wq2 ⟨rfl, rfl⟩
      (refine hK.out _ _ (HT.a.1) (fun hHeld => ?_); clear hK K; (try simp only [Act.put, List.setIfInBounds_toArray, List.set_cons_zero, List.set_cons_succ]))
      (refine held_call 8 rfl (by kernel_rfl) (fun K hK => ?_); go_simp)
      go_at_call 36; refine (FV.out _ HT.low).mono ?_; rintro e wq3 ⟨rfl, rfl⟩
      (refine hK.out _ _ (HT.a.1) (fun hHeld => ?_); clear hK K; (try simp only [Act.put, List.setIfInBounds_toArray, List.set_cons_zero, List.set_cons_succ]))
      have Hc := H6
      obtain ⟨cs, fs, zs⟩ := Hc
      (refine held_call 10 rfl (by kernel_rfl) (fun K hK => ?_); go_simp)
      clear cs fs zs
      generalize hw : wq3.setCell ⟨b6, 3, none⟩ (.int .i64 ra) = wp
      have H6 : Blk wp b6 #[.int .i64 3, .int .i64 rh, .int .i64 0, .int .i64 ra, .int .i64 0, .int .i64 0] := by rw [← hw]; simpa using H6.put (o := 3) (v := .int .i64 ra) (by simp)
      have HT : TwoAt w #[.int .i64 3, .string h1, .string h2, .string who, .string s1, .string s2, .string s3, .string s4, .string via] #[.int .i64 0, .int .i64 0, .int .i64 0, .int .i64 0, .int .i64 0, .int .i64 0] wp := by rw [← hw]; exact ⟨HT.a.far (by omega), HT.b.far (by omega), below_put HT.low (by omega)⟩
      clear hw
      (refine hK.out _ _ (HT.a.1) (fun hHeld => ?_); clear hK K; (try simp only [Act.put, List.setIfInBounds_toArray, List.set_cons_zero, List.set_cons_succ]))
      (refine held_yes (v := ?_) 11 rfl (by kernel_rfl) (by kernel_rfl) (by kernel_rfl) (fun _ _ _ h => h) (by rfl) (by assumption) ?_ ?_; rotate_left; (focus ((intro w hSw); (try dsimp only at hSw); go_simp; (try with_reducible rfl))); (try simp only [Act.put, List.setIfInBounds_toArray, List.set_cons_zero, List.set_cons_succ]))
      have Hc := H6
      obtain ⟨cs, fs, zs⟩ := Hc
      (refine held_call 12 rfl (by kernel_rfl) (fun K hK => ?_); go_simp)
      clear cs fs zs
      generalize hw : (wp.setCell ⟨b6, 5, none⟩ (.int .i64 pv)) = wn
      have H6 : Blk wn b6 #[.int .i64 3, .int .i64 rh, .int .i64 0, .int .i64 ra, .int .i64 0, .int .i64 pv] := by rw [← hw]; simpa using (H6.put (o := 5) (v := .int .i64 pv) (by simp))
      have HT : TwoAt w #[.int .i64 3, .string h1, .string h2, .string who, .string s1, .string s2, .string s3, .string s4, .string via] #[.int .i64 0, .int .i64 0, .int .i64 0, .int .i64 0, .int .i64 0, .int .i64 0] wn := by rw [← hw]; exact ⟨(HT.a.far (by omega)), (HT.b.far (by omega)), (below_put HT.low (by omega))⟩
      clear hw
      (refine hK.out _ _ (HT.a.1) (fun hHeld => ?_); clear hK K; (try simp only [Act.put, List.setIfInBounds_toArray, List.set_cons_zero, List.set_cons_succ]))
      refine wpAnyH_done (by kernel_rfl) ?_ _
      have HT := Lib.hid HT
      obtain ⟨cs, fs, zs⟩ := H6
      obtain ⟨mn, hmn, hmd0⟩ := run_min5 (P := Try.prog) #[3, 3, 3, 3, 3] 3 rh 0 ra 0 pv
      have hmd : decide (mn < 0) = !ruleOk ⟨3, rh, 0, ra, 0, pv⟩ := hmd0
      clear hmd0
      cases hok : ruleOk ⟨3, rh, 0, ra, 0, pv⟩ with
      | false =>
        have R := Lib.hid (RB.out (by rw [RV]; exact hok))
        have d : decide (mn < 0) = true := by rw [hmd, hok]; rfl
        obtain ⟨cb, fb, zb⟩ := HT.out.b
        clear hmd hok RV
        go_wp2
        refine bodyPost_ret (v := .tuple #[ruv noRu, .bool false]) (by simp [results, Try.results11, go_sem, noRu, cb]) rfl ⟨by rw [R.out], ?_⟩
        exact below_puts (by omega) [.int .i64 0, .int .i64 0, .int .i64 0, .int .i64 0, .int .i64 0, .int .i64 0] 0 wn HT.out.low
      | true =>
        have R := Lib.hid (RR.out (by rw [RV]; exact hok))
        have d : decide (mn < 0) = false := by rw [hmd, hok]; rfl
        have RV := Lib.hid RV
        obtain ⟨cb, fb, zb⟩ := HT.out.b
        clear hmd hok
        go_wp2
        refine bodyPost_ret (v := .tuple #[ruv ⟨3, rh, 0, ra, 0, pv⟩, .bool true]) (by simp [results, Try.results11, go_sem, cb]) rfl ⟨by rw [R.out, RV.out], ?_⟩
        exact below_puts (by omega) [.int .i64 3, .int .i64 rh, .int .i64 0, .int .i64 ra, .int .i64 0, .int .i64 pv] 0 wn HT.out.low
    have n3 := hk
    clear hk
    by_cases hk : k = 4
    · skip
      subst hk
      obtain ⟨ca, fa, za⟩ := HT.a
      go_wp2_with fail
      obtain ⟨ra, hra⟩ : ∃ x, x = roleN a b ⟨s1, s2⟩ := ⟨_, rfl⟩
      have RA := Lib.hid (fun W hb => RO.out ⟨s1, s2⟩ W hb)
      rw [← hra] at RA
      obtain ⟨rb, hrb⟩ : ∃ x, x = roleN a b ⟨s3, s4⟩ := ⟨_, rfl⟩
      have RB2 := Lib.hid (fun W hb => RO.out ⟨s3, s4⟩ W hb)
      rw [← hrb] at RB2
      have RV : ruleR a b ⟨4, ⟨h1, h2⟩, who, ⟨s1, s2⟩, ⟨s3, s4⟩, via⟩ = ⟨4, rh, 0, ra, rb, 0⟩ := by unfold ruleR; simp [HRH.out, hra, hrb]
      clear hra hrb
      refine (RB2.out _ HT.low).mono ?_
      rintro e wq ⟨rfl, hb⟩
      have HT := HT.later hb
      have H6 := H6.below hb
      clear hb ca fa za
      obtain ⟨ca, fa, za⟩ := HT.a
      have Hc := H6
      obtain ⟨cs, fs, zs⟩ := Hc
      go_upto_region 11 with fail
      clear cs fs zs ca fa za
      generalize hw : wq.setCell ⟨b6, 4, none⟩ (.int .i64 rb) = wp
      have H6 : Blk wp b6 #[.int .i64 4, .int .i64 rh, .int .i64 0, .int .i64 0, .int .i64 rb, .int .i64 0] := by rw [← hw]; simpa using H6.put (o := 4) (v := .int .i64 rb) (by simp)
      have HT : TwoAt w #[.int .i64 4, .string h1, .string h2, .string who, .string s1, .string s2, .string s3, .string s4, .string via] #[.int .i64 0, .int .i64 0, .int .i64 0, .int .i64 0, .int .i64 0, .int .i64 0] wp := by rw [← hw]; exact ⟨HT.a.far (by omega), HT.b.far (by omega), below_put HT.low (by omega)⟩
      clear hw
      obtain ⟨ca, fa, za⟩ := HT.a
      go_wp2_with fail
      refine (RA.out _ HT.low).mono ?_
      rintro e wq2 ⟨rfl, hb⟩
      have HT := HT.later hb
      have H6 := H6.below hb
      clear hb ca fa za
      have Hc := H6
      obtain ⟨cs, fs, zs⟩ := Hc
      go_upto_region 13 with fail
      clear cs fs zs
      generalize hw : (wq2.setCell ⟨b6, 3, none⟩ (.int .i64 ra)) = wn
      have H6 : Blk wn b6 #[.int .i64 4, .int .i64 rh, .int .i64 0, .int .i64 ra, .int .i64 rb, .int .i64 0] := by rw [← hw]; simpa using (H6.put (o := 3) (v := .int .i64 ra) (by simp))
      have HT : TwoAt w #[.int .i64 4, .string h1, .string h2, .string who, .string s1, .string s2, .string s3, .string s4, .string via] #[.int .i64 0, .int .i64 0, .int .i64 0, .int .i64 0, .int .i64 0, .int .i64 0] wn := by rw [← hw]; exact ⟨(HT.a.far (by omega)), (HT.b.far (by omega)), (below_put HT.low (by omega))⟩
      clear hw
      have HT := Lib.hid HT
      obtain ⟨cs, fs, zs⟩ := H6
      obtain ⟨mn, hmn, hmd0⟩ := run_min5 (P := Try.prog) #[3, 3, 3, 3, 3] 3 rh 0 ra rb 0
      have hmd : decide (mn < 0) = !ruleOk ⟨4, rh, 0, ra, rb, 0⟩ := hmd0
      clear hmd0
      cases hok : ruleOk ⟨4, rh, 0, ra, rb, 0⟩ with
      | false =>
        have R := Lib.hid (RB.out (by rw [RV]; exact hok))
        have d : decide (mn < 0) = true := by rw [hmd, hok]; rfl
        obtain ⟨cb, fb, zb⟩ := HT.out.b
        clear hmd hok RV
        go_wp2
        refine bodyPost_ret (v := .tuple #[ruv noRu, .bool false]) (by simp [results, Try.results11, go_sem, noRu, cb]) rfl ⟨by rw [R.out], ?_⟩
        exact below_puts (by omega) [.int .i64 0, .int .i64 0, .int .i64 0, .int .i64 0, .int .i64 0, .int .i64 0] 0 wn HT.out.low
      | true =>
        have R := Lib.hid (RR.out (by rw [RV]; exact hok))
        have d : decide (mn < 0) = false := by rw [hmd, hok]; rfl
        have RV := Lib.hid RV
        obtain ⟨cb, fb, zb⟩ := HT.out.b
        clear hmd hok
        go_wp2
        refine bodyPost_ret (v := .tuple #[ruv ⟨4, rh, 0, ra, rb, 0⟩, .bool true]) (by simp [results, Try.results11, go_sem, cb]) rfl ⟨by rw [R.out, RV.out], ?_⟩
        exact below_puts (by omega) [.int .i64 4, .int .i64 rh, .int .i64 0, .int .i64 ra, .int .i64 rb, .int .i64 0] 0 wn HT.out.low
    have hr := HR.out
    rw [rightS0 k _ _ _ _ _ n1 n2 n3 hk] at hr
    cases hr
end Go.Proofs.Ythickpocfplcoaa
namespace Go.Proofs.Ythickpocfplcoaa
open Go.RowKit Go.Shelf

set_option maxHeartbeats 1000000 in
theorem ref1_HasB (va : Value) (l : List ByteArray) (s : ByteArray) (w : World) (ha : SlA w 1 va l.length (strs l)) :
    Calls Try.prog 51 #[va, .string s] w fun e w' => e = .returned (.bool (hasB l s)) ∧ w' = w := by
  have HA := Lib.hid ha
  have hmax := ha.max
  have HY := Lib.hid (fun k (hk : k < l.length) (e : l[k] = s) => hasB_yes hk e)
  have HE := Lib.hid (fun k (hk : ¬ k < l.length) h => hasB_end (l := l) (s := s) (k := k) hk h)
  obtain ⟨ao, cap, hva⟩ := ha.form
  subst hva
  clear ha
  generalize hasB l s = r at HY HE ⊢
  go_enter Try.func51, Try.ntmps51
  go_wp2
  go_loop [9] (fun i => ∃ k : Nat, k ≤ l.length ∧ i = .int .i64 k ∧ Hid (∀ j (hj : j < l.length), j < k → ¬ l[j] = s)) (fun i => l.length - (intOf i).toNat)
  case atStart => exact ⟨0, by omega, rfl, Lib.hid (fun _ _ h => absurd h (by omega))⟩
  case round =>
    obtain ⟨k, hk, rfl, HT⟩ := hrel
    by_cases hlt : k < l.length
    · obtain ⟨b1, o1, c1, he1, hc1, hm1, hb1, hx1⟩ := HA.out.pos (by omega)
      simp only [Value.slice.injEq, true_and] at he1
      obtain ⟨rfl, rfl⟩ := he1
      have p0 := hx1 k _ (strs_get hlt)
      clear hx1
      have bs := beq_str l[k] s
      by_cases he : l[k] = s
      · have R := Lib.hid (HY.out k hlt he)
        rw [decide_eq_true he] at bs
        clear he
        go_wp2
        go_ret
        exact ⟨by rw [R.out]; rfl, rfl⟩
      · have HT2 : Hid (∀ j (hj : j < l.length), j < k + 1 → ¬ l[j] = s) := Lib.hid (fun j hj hjk => by
          by_cases h : j < k
          · exact HT.out j hj h
          · obtain rfl : j = k := by omega
            exact he)
        rw [decide_eq_false he] at bs
        clear he
        go_wp2
        exact ⟨⟨k + 1, by omega, by go_num, HT2⟩, by simp [intOf]; omega⟩
    · have R := Lib.hid (HE.out k hlt HT.out)
      go_wp2
      go_ret
      exact ⟨by rw [R.out]; rfl, rfl⟩
/-- Of the first k of a row: what Put has made of them. -/
structure PutI (l : List ByteArray) (s : ByteArray) (k : Nat) (d : Bool) (ss : List ByteArray) : Prop where
  le : k ≤ l.length
  f : d = false → ss = l.take k ∧ ∀ j (hj : j < l.length), j < k → cmpS l[j] s < 0
  t : d = true → posSB l s < k ∧ ss = insAtB (l.take k) s (posSB l s)
theorem PutI.start (l : List ByteArray) (s : ByteArray) : PutI l s 0 false [] := ⟨by omega, fun _ => ⟨rfl, fun _ _ h => absurd h (by omega)⟩, fun h => by cases h⟩
theorem PutI.len {l : List ByteArray} {s : ByteArray} {k : Nat} {d : Bool} {ss : List ByteArray} (h : PutI l s k d ss) : ss.length ≤ l.length + 1 := by
  have hk := h.le
  cases d with
  | false => rw [(h.f rfl).1, List.length_take]; omega
  | true =>
    have h1 := (h.t rfl).1
    rw [(h.t rfl).2, insAt_lenB (by rw [List.length_take]; omega), List.length_take]; omega
theorem insAt_last {l : List ByteArray} {x : ByteArray} : insAtB l x l.length = l ++ [x] := by
  unfold insAtB
  rw [List.take_of_length_le (Nat.le_refl _), List.drop_of_length_le (Nat.le_refl _)]
theorem insAt_snoc {l : List ByteArray} {x y : ByteArray} {p : Nat} (hp : p ≤ l.length) : insAtB l x p ++ [y] = insAtB (l ++ [y]) x p := by
  unfold insAtB
  rw [List.take_append_of_le_length hp, List.drop_append_of_le_length hp, List.append_assoc]; rfl
section
variable {l : List ByteArray} {s : ByteArray} {k : Nat} {ss : List ByteArray}
theorem PutI.yes (h : PutI l s k true ss) (hk : k < l.length) : PutI l s (k + 1) true (ss ++ [l[k]]) := by
  obtain ⟨h1, h2⟩ := h.t rfl
  refine ⟨hk, fun h => (by cases h), fun _ => ⟨by omega, ?_⟩⟩
  rw [h2, insAt_snoc (by rw [List.length_take]; omega), ← List.take_succ_eq_append_getElem hk]
theorem lt_or (x y : ByteArray) (h : ¬ x = y) (h' : Op.bytesLess y.toList x.toList = false) : cmpS x y < 0 := by
  rw [← str_less, decide_eq_false_iff_not] at h'
  have h1 : ¬ cmpS x y = 0 := fun e => h ((cmpS_zero x y).1 e)
  have h2 := cmpS_neg x y
  omega
theorem PutI.no (h : PutI l s k false ss) (hk : k < l.length) (hne : ¬ l[k] = s) (hb : Op.bytesLess s.toList l[k].toList = false) : PutI l s (k + 1) false (ss ++ [l[k]]) := by
  obtain ⟨h1, h2⟩ := h.f rfl
  refine ⟨hk, fun _ => ⟨by rw [h1, ← List.take_succ_eq_append_getElem hk], fun j hj hjk => ?_⟩, fun h => (by cases h)⟩
  by_cases h' : j < k
  · exact h2 j hj h'
  · obtain rfl : j = k := by omega
    exact lt_or _ _ hne hb
theorem PutI.put (h : PutI l s k false ss) (hk : k < l.length) (hb : Op.bytesLess s.toList l[k].toList = true) : PutI l s (k + 1) true (ss ++ [s] ++ [l[k]]) := by
  obtain ⟨h1, h2⟩ := h.f rfl
  have hp : posSB l s = k := pos_ofB l s k (by omega) h2 (fun _ => by
    rw [← str_less] at hb
    have := of_decide_eq_true hb
    have h3 := cmpS_neg s l[k]
    omega)
  refine ⟨hk, fun h => (by cases h), fun _ => ⟨by omega, ?_⟩⟩
  have hk' : (l.take k).length = k := by rw [List.length_take]; omega
  have e : insAtB (l.take k) s k = l.take k ++ [s] := by have := insAt_last (l := l.take k) (x := s); rwa [hk'] at this
  rw [hp, h1, List.take_succ_eq_append_getElem hk, ← insAt_snoc (by rw [hk']; exact Nat.le_refl _), e]
theorem PutI.endT (h : PutI l s k true ss) (hk : l.length ≤ k) : ss = insAtB l s (posSB l s) := by
  have := (h.t rfl).2
  rwa [List.take_of_length_le hk] at this
theorem PutI.endF (h : PutI l s k false ss) (hk : l.length ≤ k) : ss ++ [s] = insAtB l s (posSB l s) := by
  obtain ⟨h1, h2⟩ := h.f rfl
  have hp : posSB l s = l.length := pos_ofB l s l.length (Nat.le_refl _) (fun j hj _ => h2 j hj (by omega)) (fun h => absurd h (by omega))
  rw [hp, h1, List.take_of_length_le hk]
  unfold insAtB
  rw [List.take_of_length_le (Nat.le_refl _), List.drop_of_length_le (Nat.le_refl _)]
end
set_option maxRecDepth 100000 in
set_option maxHeartbeats 4000000 in
theorem ref1_PutB (va : Value) (l : List ByteArray) (s : ByteArray) (w : World) (ha : SlA w 1 va l.length (strs l)) (hn : l.length ≤ 100000) :
    Calls Try.prog 34 #[va, .string s] w fun e w' => ∃ v, e = .returned v ∧ SlA w' 1 v (insSB l s).length (strs (insSB l s)) ∧ Below w.heap.size w w' := by
  have HA := Lib.hid ha
  have HH := Lib.hid (ref1_HasB va l s w ha)
  have IY := Lib.hid (fun h => insS_hasB (l := l) (x := s) h)
  have IN := Lib.hid (fun h => insS_notB (l := l) (x := s) h)
  have NE := Lib.hid (fun (h : hasB l s = false) k (hk : k < l.length) => show ¬ l[k] = s from fun e => absurd (hasB_yes hk e) (by rw [h]; exact Bool.false_ne_true))
  generalize hasB l s = b at HH IY IN NE
  have hmax := ha.max
  obtain ⟨ao, cap, hva⟩ := ha.form
  subst hva
  clear ha
  go_enter Try.func34, Try.ntmps34
  go_wp2_with fail
  refine HH.out.mono ?_
  rintro e w1 ⟨rfl, rfl⟩
  cases b with
  | true =>
    go_wp2
    go_ret
    exact ⟨_, rfl, by rw [IY.out (by first | rfl | trivial)]; exact HA.out, Below.refl _ _⟩
  | false =>
    obtain ⟨wA, hwA⟩ : ∃ wA, wA = w1 := ⟨_, rfl⟩
    subst hwA
    have INS := Lib.hid (IN.out rfl)
    have NEQ := Lib.hid (NE.out rfl)
    clear IY IN NE
    go_wp2_with fail
    go_loopw [5, 6, 15] (fun vo dv i wr => ∃ (k : Nat) (d : Bool) (ss : List ByteArray), k ≤ l.length ∧ i = .int .i64 k ∧ dv = .bool d ∧ Hid (PutI l s k d ss) ∧ Hid (Below wA.heap.size wA wr) ∧ Hid (wr.ownsRow wA.heap.size 9 1 vo ss.length (strs ss))) (fun _ _ i _ => l.length - (intOf i).toNat)
    case atStart => exact ⟨0, false, [], by omega, rfl, rfl, Lib.hid (PutI.start l s), Lib.hid (Below.refl _ _), Lib.hid (World.ownsRow_nil _ _ _ _)⟩
    case round =>
      obtain ⟨k, d, ss, hk, rfl, rfl, HC, HB, HO⟩ := hrel
      obtain ⟨oo, oc, rfl⟩ := own_form HO.out
      have hss : ss.length ≤ 100002 := by have := HC.out.len; omega
      by_cases hlt : k < l.length
      · obtain ⟨b1, o1, c1, he1, hc1, hm1, hb1, hx1⟩ := HA.out.pos (by omega)
        simp only [Value.slice.injEq, true_and] at he1
        obtain ⟨rfl, rfl⟩ := he1
        have p0 := (HB.out.cell (p := ⟨b1, o1 + k, none⟩) hb1).trans (hx1 k _ (strs_get hlt))
        have hbr : b1 < wr.heap.size := Nat.lt_of_lt_of_le hb1 HB.out.size
        have PY := Lib.hid (fun (h : PutI l s k true ss) => h.yes hlt)
        have PN := Lib.hid (fun (h : PutI l s k false ss) e => h.no hlt (NEQ.out k hlt) e)
        have PP := Lib.hid (fun (h : PutI l s k false ss) e => h.put hlt e)
        clear hx1
        generalize l[k] = x at *
        cases d with
        | true =>
          have HC' := HC.out
          have hown := HO.out
          go_wp2_with (at_builtin; refine halt_ ?_)
          unfold Halt_
          refine app_own Try.underlying22 str_info rfl (by decide) (by decide) rfl _ _ rfl wA.heap.size rfl (hown.alloc _) [.string x] rfl (heap_new1 _ _) rfl (str1 _) ?_ ?_ ?_
          · omega
          · have := HB.out.size; simp; omega
          intro a' cap' w3 hown' hgrow
          obtain ⟨q1, q2⟩ := own_push (x := x) HB.out hown hown' hgrow
          have HO1 := Lib.hid q1
          have HB1 := Lib.hid q2
          clear hown hown' hgrow q1 q2
          go_wp2_with fail
          exact ⟨⟨k + 1, true, ss ++ [x], by omega, by go_num, rfl, Lib.hid (PY.out HC'), HB1, HO1⟩, by simp [intOf]; omega⟩
        | false =>
          have HC' := HC.out
          cases hbl : Op.bytesLess s.toList x.toList with
          | false =>
            have hown := HO.out
            go_wp2_with (at_builtin; refine halt_ ?_)
            unfold Halt_
            refine app_own Try.underlying22 str_info rfl (by decide) (by decide) rfl _ _ rfl wA.heap.size rfl (hown.alloc _) [.string x] rfl (heap_new1 _ _) rfl (str1 _) ?_ ?_ ?_
            · omega
            · have := HB.out.size; simp; omega
            intro a' cap' w3 hown' hgrow
            obtain ⟨q1, q2⟩ := own_push (x := x) HB.out hown hown' hgrow
            have HO1 := Lib.hid q1
            have HB1 := Lib.hid q2
            clear hown hown' hgrow q1 q2
            go_wp2_with fail
            exact ⟨⟨k + 1, false, ss ++ [x], by omega, by go_num, rfl, Lib.hid (PN.out HC' hbl), HB1, HO1⟩, by simp [intOf]; omega⟩
          | true =>
            have hown := HO.out
            go_wp2_with (at_builtin; refine halt_ ?_)
            unfold Halt_
            refine app_own Try.underlying22 str_info rfl (by decide) (by decide) rfl _ _ rfl wA.heap.size rfl (hown.alloc _) [.string s] rfl (heap_new1 _ _) rfl (str1 _) ?_ ?_ ?_
            · omega
            · have := HB.out.size; simp; omega
            intro a' cap' w3 hown' hgrow
            obtain ⟨q1, q2⟩ := own_push (x := s) HB.out hown hown' hgrow
            have HO1 := Lib.hid q1
            have HB1 := Lib.hid q2
            clear hown hown' hgrow q1 q2
            have hown := HO1.out
            go_wp2_with (at_builtin; refine halt_ ?_)
            unfold Halt_
            refine app_own Try.underlying22 str_info rfl (by decide) (by decide) rfl _ _ rfl wA.heap.size rfl (hown.alloc _) [.string x] rfl (heap_new1 _ _) rfl (str1 _) ?_ ?_ ?_
            · (simp only [List.length_append, List.length_cons, List.length_nil]; omega)
            · have := HB1.out.size; simp; omega
            intro a' cap' w3 hown' hgrow
            obtain ⟨q1, q2⟩ := own_push (x := x) HB1.out hown hown' hgrow
            have HO2 := Lib.hid q1
            have HB2 := Lib.hid q2
            clear hown hown' hgrow q1 q2
            go_wp2_with fail
            refine ⟨⟨k + 1, true, ss ++ [s] ++ [x], by omega, by go_num, rfl, Lib.hid (PP.out HC' hbl), HB2, Lib.hid (by have h := HO2.out; rw [show (ss ++ [s]).length + 1 = ss.length + 1 + 1 by simp] at h; exact h)⟩, by simp [intOf]; omega⟩
      · cases d with
        | true =>
          have HC' := HC.out
          have HSL := Lib.hid (Sl.of_own HO.out).a
          go_wp2
          go_ret
          exact ⟨_, rfl, by rw [INS.out, ← HC'.endT (by omega)]; exact HSL.out, HB.out⟩
        | false =>
          have HC' := HC.out
          have hown := HO.out
          go_wp2_with (at_builtin; refine halt_ ?_)
          unfold Halt_
          refine app_own Try.underlying22 str_info rfl (by decide) (by decide) rfl _ _ rfl wA.heap.size rfl (hown.alloc _) [.string s] rfl (heap_new1 _ _) rfl (str1 _) ?_ ?_ ?_
          · omega
          · have := HB.out.size; simp; omega
          intro a' cap' w3 hown' hgrow
          obtain ⟨q1, q2⟩ := own_push (x := s) HB.out hown hown' hgrow
          have HO1 := Lib.hid q1
          have HB1 := Lib.hid q2
          clear hown hown' hgrow q1 q2
          have HSL := Lib.hid (Sl.of_own HO1.out).a
          go_wp2
          go_ret
          exact ⟨_, rfl, by rw [INS.out, ← HC'.endF (by omega)]; exact HSL.out, HB1.out⟩
set_option maxRecDepth 100000 in
set_option maxHeartbeats 2000000 in
theorem ref1_NewB (va : Value) (l : List ByteArray) (w : World) (ha : SlA w 1 va l.length (strs l)) (hn : l.length ≤ 1000) :
    Calls Try.prog 10 #[va] w fun e w' => ∃ v, e = .returned v ∧ SlA w' 1 v (newB l).length (strs (newB l)) ∧ Below w.heap.size w w' := by
  have HA := Lib.hid ha
  have hmax := ha.max
  have PT := Lib.hid (fun vo acc s W h hl => ref1_PutB vo acc s W h hl)
  obtain ⟨ao, cap, hva⟩ := ha.form
  subst hva
  clear ha
  have RN := Lib.hid (show newB l = insAllB [] l from rfl)
  generalize newB l = nl at RN ⊢
  go_enter Try.func10, Try.ntmps10
  go_wp2_with fail
  go_loopw [3, 8] (fun vo i wr => ∃ (k : Nat) (acc : List ByteArray), k ≤ l.length ∧ i = .int .i64 k ∧ acc.length ≤ k ∧ Hid (insAllB acc (l.drop k) = nl) ∧ Hid (SlA wr 1 vo acc.length (strs acc)) ∧ Hid (Below w.heap.size w wr)) (fun _ i _ => l.length - (intOf i).toNat)
  case atStart => exact ⟨0, [], by omega, rfl, by simp, Lib.hid (by rw [RN.out]; rfl), Lib.hid (Sl.nil _ _).a, Lib.hid (Below.refl _ _)⟩
  case round =>
    obtain ⟨k, acc, hk, rfl, hacc, HI, HS, HB⟩ := hrel
    obtain ⟨oo, oc, rfl⟩ := HS.out.form
    by_cases hlt : k < l.length
    · obtain ⟨b1, o1, c1, he1, hc1, hm1, hb1, hx1⟩ := HA.out.pos (by omega)
      simp only [Value.slice.injEq, true_and] at he1
      obtain ⟨rfl, rfl⟩ := he1
      have p0 := (HB.out.cell (p := ⟨b1, o1 + k, none⟩) hb1).trans (hx1 k _ (strs_get hlt))
      have hbr : b1 < wr.heap.size := Nat.lt_of_lt_of_le hb1 HB.out.size
      have HI2 := Lib.hid (HI.out ▸ insAll_stepB acc l k hlt)
      have hle := insS_lenB acc l[k]
      clear hx1
      generalize l[k] = x at *
      go_wp2_with fail
      refine (PT.out _ acc x _ HS.out (by omega)).mono ?_
      rintro e w2 ⟨v2, rfl, hs2, hb2⟩
      have HS2 := Lib.hid hs2
      have HB2 := Lib.hid (HB.out.trans (hb2.mono HB.out.size))
      clear hs2 hb2
      go_wp2
      exact ⟨⟨k + 1, insSB acc x, by omega, by go_num, by omega, Lib.hid HI2.out.symm, HS2, HB2⟩, by simp [intOf]; omega⟩
    · have R := Lib.hid (HI.out ▸ (insAll_endB acc l k hlt).symm)
      go_wp2
      go_ret
      exact ⟨_, rfl, by rw [← R.out]; exact HS.out, HB.out⟩
set_option maxRecDepth 100000 in
set_option maxHeartbeats 1000000 in
theorem ref6_Place (va : Value) (l : List ByteArray) (s : ByteArray) (w : World) (ha : SlA w 1 va l.length (strs l)) :
    Calls Try.prog 37 #[va, .string s] w fun e w' => e = .returned (.int .i64 (placeB l s)) ∧ w' = w := by
  have HA := Lib.hid ha
  have hmax := ha.max
  have HY := Lib.hid (fun k (hk : k < l.length) (e : l[k] = s) h => place_first hk e h)
  have HE := Lib.hid (fun h => place_no (l := l) (s := s) h)
  obtain ⟨ao, cap, hva⟩ := ha.form
  subst hva
  clear ha
  generalize placeB l s = r at HY HE ⊢
  go_enter Try.func37, Try.ntmps37
  go_wp2
  go_loop [9] (fun i => ∃ k : Nat, k ≤ l.length ∧ i = .int .i64 k ∧ Hid (∀ j (hj : j < l.length), j < k → ¬ l[j] = s)) (fun i => l.length - (intOf i).toNat)
  case atStart => exact ⟨0, by omega, rfl, Lib.hid (fun _ _ h => absurd h (by omega))⟩
  case round =>
    obtain ⟨k, hk, rfl, HT⟩ := hrel
    by_cases hlt : k < l.length
    · obtain ⟨b1, o1, c1, he1, hc1, hm1, hb1, hx1⟩ := HA.out.pos (by omega)
      simp only [Value.slice.injEq, true_and] at he1
      obtain ⟨rfl, rfl⟩ := he1
      have p0 := hx1 k _ (strs_get hlt)
      clear hx1
      have bs := beq_str l[k] s
      by_cases he : l[k] = s
      · have R := Lib.hid (HY.out k hlt he HT.out)
        rw [decide_eq_true he] at bs
        clear he
        go_wp2
        go_ret
        exact ⟨by rw [R.out]; rfl, rfl⟩
      · have HT2 : Hid (∀ j (hj : j < l.length), j < k + 1 → ¬ l[j] = s) := Lib.hid (fun j hj hjk => by
          by_cases h : j < k
          · exact HT.out j hj h
          · obtain rfl : j = k := by omega
            exact he)
        rw [decide_eq_false he] at bs
        clear he
        go_wp2
        exact ⟨⟨k + 1, by omega, by go_num, HT2⟩, by simp [intOf]; omega⟩
    · have R := Lib.hid (HE.out (fun j hj => HT.out j hj (by omega)))
      go_wp2
      go_ret
      exact ⟨by rw [R.out]; rfl, rfl⟩
set_option maxRecDepth 100000 in
set_option maxHeartbeats 4000000 in
theorem ref6_Role (va vb : Value) (a b : List ByteArray) (r : Rl) (w : World) (ha : SlA w 1 va a.length (strs a)) (hb : SlA w 1 vb b.length (strs b)) (na : a.length ≤ 1000) (nb : b.length ≤ 1000) :
    Calls Try.prog 14 #[va, vb, rv r] w fun e w' => e = .returned (.int .i64 (roleN a b r)) ∧ Below w.heap.size w w' := by
  obtain ⟨r1, r2⟩ := r
  have F1 := Lib.hid (fun W (h : Below w.heap.size w W) => ref6_Place va a r1 W (ha.below h))
  have F2 := Lib.hid (fun W (h : Below w.heap.size w W) => ref6_Place vb b r2 W (hb.below h))
  have p1 := place_range a r1
  have p2 := place_range b r2
  have R := Lib.hid (show roleN a b ⟨r1, r2⟩ = if placeB a r1 < 0 ∨ placeB b r2 < 0 then -1 else placeB a r1 * b.length + placeB b r2 from rfl)
  generalize roleN a b ⟨r1, r2⟩ = res at R ⊢
  generalize placeB a r1 = x at F1 p1 R
  generalize placeB b r2 = y at F2 p2 R
  have T0 := Lib.hid (show OneAt w #[.string r1, .string r2] (w.alloc (.cells #[.string r1, .string r2] 24)) from ⟨Blk.new w _ _, (Below.refl _ _).alloc (Nat.le_refl _) _⟩)
  obtain ⟨ao, ac, rfl⟩ := ha.form
  obtain ⟨bo, bc, rfl⟩ := hb.form
  clear ha hb
  go_enter Try.func14, Try.ntmps14
  go_wp2_with fail
  refine wp_region_held_drew (S := (fun W => ∀ o, W.cell? ⟨w.heap.size, o, none⟩ = (#[.string r1, .string r2] : Array Value)[o]?)) (by kernel_rfl) T0.out.drew.a.1 (fun hHeld => ?_)
  have HT := T0.out.drew
  (refine held_yes (v := ?_) 0 rfl (by kernel_rfl) (by kernel_rfl) (by kernel_rfl) (fun _ _ _ h => h) (by rfl) (by assumption) ?_ ?_; rotate_left; (focus ((intro w hSw); (try dsimp only at hSw); go_simp; (try with_reducible rfl))); (try simp only [Act.put, List.setIfInBounds_toArray, List.set_cons_zero, List.set_cons_succ])); (refine held_yes (v := ?_) 1 rfl (by kernel_rfl) (by kernel_rfl) (by kernel_rfl) (fun _ _ _ h => h) (by rfl) (by assumption) ?_ ?_; rotate_left; (focus ((intro w hSw); (try dsimp only at hSw); go_simp; (try with_reducible rfl))); (try simp only [Act.put, List.setIfInBounds_toArray, List.set_cons_zero, List.set_cons_succ])); (refine held_yes (v := ?_) 2 rfl (by kernel_rfl) (by kernel_rfl) (by kernel_rfl) (fun _ _ _ h => h) (by rfl) (by assumption) ?_ ?_; rotate_left; (focus ((intro w hSw); (try dsimp only at hSw); go_simp; (try with_reducible rfl))); (try simp only [Act.put, List.setIfInBounds_toArray, List.set_cons_zero, List.set_cons_succ])); (refine held_yes (v := ?_) 4 rfl (by kernel_rfl) (by kernel_rfl) (by kernel_rfl) (fun _ _ _ h => h) (by rfl) (by assumption) ?_ ?_; rotate_left; (focus ((intro w hSw); (try dsimp only at hSw); go_simp; (try with_reducible rfl))); (try simp only [Act.put, List.setIfInBounds_toArray, List.set_cons_zero, List.set_cons_succ])); (refine held_yes (v := ?_) 5 rfl (by kernel_rfl) (by kernel_rfl) (by kernel_rfl) (fun _ _ _ h => h) (by rfl) (by assumption) ?_ ?_; rotate_left; (focus ((intro w hSw); (try dsimp only at hSw); go_simp; (try with_reducible rfl))); (try simp only [Act.put, List.setIfInBounds_toArray, List.set_cons_zero, List.set_cons_succ])); (refine held_yes (v := ?_) 6 rfl (by kernel_rfl) (by kernel_rfl) (by kernel_rfl) (fun _ _ _ h => h) (by rfl) (by assumption) ?_ ?_; rotate_left; (focus ((intro w hSw); (try dsimp only at hSw); go_simp; (try with_reducible rfl))); (try simp only [Act.put, List.setIfInBounds_toArray, List.set_cons_zero, List.set_cons_succ]))
  (refine held_call 3 rfl (by kernel_rfl) (fun K hK => ?_); go_simp)
  go_at_call 37; refine (F1.out _ HT.low).mono ?_; rintro e wq ⟨rfl, rfl⟩
  (refine hK.out _ _ (HT.a.1) (fun hHeld => ?_); clear hK K; (try simp only [Act.put, List.setIfInBounds_toArray, List.set_cons_zero, List.set_cons_succ]))
  (refine held_call 7 rfl (by kernel_rfl) (fun K hK => ?_); go_simp)
  go_at_call 37; refine (F2.out _ HT.low).mono ?_; rintro e wq ⟨rfl, rfl⟩
  (refine hK.out _ _ (HT.a.1) (fun hHeld => ?_); clear hK K; (try simp only [Act.put, List.setIfInBounds_toArray, List.set_cons_zero, List.set_cons_succ]))
  (refine held_yes (v := ?_) 8 rfl (by kernel_rfl) (by kernel_rfl) (by kernel_rfl) (fun _ _ _ h => h) (by rfl) (by assumption) ?_ ?_; rotate_left; (focus ((intro w hSw); (try dsimp only at hSw); go_simp; (try with_reducible rfl))); (try simp only [Act.put, List.setIfInBounds_toArray, List.set_cons_zero, List.set_cons_succ])); (refine held_yes (v := ?_) 9 rfl (by kernel_rfl) (by kernel_rfl) (by kernel_rfl) (fun _ _ _ h => h) (by rfl) (by assumption) ?_ ?_; rotate_left; (focus ((intro w hSw); (try dsimp only at hSw); go_simp; (try with_reducible rfl))); (try simp only [Act.put, List.setIfInBounds_toArray, List.set_cons_zero, List.set_cons_succ]))
  refine wpAnyH_done (by kernel_rfl) ?_ _
  have HT := Lib.hid HT
  by_cases hx : x < 0
  · have d : decide (x < 0) = true := decide_eq_true hx
    have R2 := Lib.hid (R.out.trans (if_pos (.inl hx)))
    clear hx
    go_wp2
    go_ret
    exact ⟨by rw [R2.out]; rfl, HT.out.low⟩
  · have d : decide (x < 0) = false := decide_eq_false hx
    by_cases hy : y < 0
    · have d2 : decide (y < 0) = true := decide_eq_true hy
      have R2 := Lib.hid (R.out.trans (if_pos (.inr hy)))
      clear hx hy
      go_wp2
      go_ret
      exact ⟨by rw [R2.out]; rfl, HT.out.low⟩
    · have d2 : decide (y < 0) = false := decide_eq_false hy
      have R2 := Lib.hid (R.out.trans (if_neg (fun h => h.elim hx hy)))
      obtain ⟨n, rfl⟩ := Int.eq_ofNat_of_zero_le (by omega : 0 ≤ x)
      obtain ⟨m, rfl⟩ := Int.eq_ofNat_of_zero_le (by omega : 0 ≤ y)
      have hmul : n * b.length ≤ 1000 * 1000 := Nat.mul_le_mul (by omega) nb
      have e1 : IntKind.i64.wrap ((n : Int) * b.length) = (n : Int) * b.length := Go.IntWalk.i64_in _ (by rw [← Int.natCast_mul]; omega)
      have e2 : IntKind.i64.wrap ((n : Int) * b.length + m) = (n : Int) * b.length + m := Go.IntWalk.i64_in _ (by rw [← Int.natCast_mul]; omega)
      clear hx hy
      go_wp2
      go_ret
      exact ⟨by rw [R2.out]; rfl, HT.out.low⟩
end Go.Proofs.Ythickpocfplcoaa
