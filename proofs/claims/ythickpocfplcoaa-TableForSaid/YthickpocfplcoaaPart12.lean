/- crupperref06.Rule (printed by gen_ref6rule.py). -/
import Derived.Test.YthickpocfplcoaaPart11
import Derived.Test.YthickpocfplcoaaPart9
namespace Go.Proofs.Ythickpocfplcoaa
open Go.RowKit Go.Shelf


set_option maxRecDepth 100000 in
set_option maxHeartbeats 16000000 in
theorem ref6_Rule (va vb : Value) (a b : List ByteArray) (s : St) (w : World) (ha : SlA w 1 va a.length (strs a)) (hb : SlA w 1 vb b.length (strs b)) (na : a.length ≤ 10000) (nb : b.length ≤ 10000) (hs : s.le 4294967) :
    Calls Try.prog 12 #[va, vb, sv s] w fun e w' => e = .returned (.tuple #[ruv (ruleN a b s).1, .bool (ruleN a b s).2]) ∧ Below w.heap.size w w' := by
  have SR := Lib.hid (fun W => ref3_Right s W hs)
  have RO := Lib.hid (fun r W (h : Below w.heap.size w W) => ref6_Role va vb a b r W (ha.below h) (hb.below h) na nb)
  have FA := Lib.hid (fun s W (h : Below w.heap.size w W) => ref6_Place va a s W (ha.below h))
  have FB := Lib.hid (fun s W (h : Below w.heap.size w W) => ref6_Place vb b s W (hb.below h))
  obtain ⟨ao, ac, rfl⟩ := ha.form
  obtain ⟨bo, bc, rfl⟩ := hb.form
  clear ha hb
  obtain ⟨k, ⟨h1, h2⟩, who, ⟨s1, s2⟩, ⟨s3, s4⟩, via⟩ := s
  have HT := Lib.hid (TwoAt.new' w #[.int .i64 k, .string h1, .string h2, .string who, .string s1, .string s2, .string s3, .string s4, .string via] #[.int .i64 0, .int .i64 0, .int .i64 0, .int .i64 0, .int .i64 0, .int .i64 0] 26 34)
  cases hr : rightS ⟨k, ⟨h1, h2⟩, who, ⟨s1, s2⟩, ⟨s3, s4⟩, via⟩ with
  | false =>
    have R := Lib.hid (ruleN_no (a := a) (b := b) hr)
    rw [hr] at SR
    clear hr
    go_enter Try.func12, Try.ntmps12
    go_wp2_with fail
    refine (SR.out _).mono ?_
    rintro e w1 ⟨rfl, hb⟩
    have HT := Lib.hid (HT.out.later hb)
    clear hb
    obtain ⟨cb, fb, zb⟩ := HT.out.b
    go_wp2
    refine bodyPost_ret (v := .tuple #[ruv noRu, .bool false]) (by simp [results, Try.results12, go_sem, noRu, cb]) rfl ⟨by rw [R.out], ?_⟩
    exact below_puts (by omega) [.int .i64 0, .int .i64 0, .int .i64 0, .int .i64 0, .int .i64 0, .int .i64 0] 0 w1 HT.out.low
  | true =>
  rw [hr] at SR
  have RR := Lib.hid (ruleN_ok (a := a) (b := b) hr)
  have RB := Lib.hid (ruleN_bad (a := a) (b := b) (s := ⟨k, ⟨h1, h2⟩, who, ⟨s1, s2⟩, ⟨s3, s4⟩, via⟩))
  have HR := Lib.hid hr
  clear hr
  go_enter Try.func12, Try.ntmps12
  go_wp2_with fail
  refine (SR.out _).mono ?_
  rintro e w1 ⟨rfl, hb⟩
  have HT := Lib.hid (HT.out.later hb)
  clear hb SR
  have RH := Lib.hid (fun W hb => RO.out ⟨h1, h2⟩ W hb)
  obtain ⟨rh, hrh⟩ : ∃ r, r = roleN a b ⟨h1, h2⟩ := ⟨_, rfl⟩
  rw [← hrh] at RH
  have HRH := Lib.hid hrh
  clear hrh
  go_upto_region 3 with fail
  go_cut [8] (fun s6 wx => ∃ b6 : Nat, s6 = .pointer (some ⟨b6, 0, none⟩) ∧ w.heap.size + 1 < b6 ∧ Hid (TwoAt w #[.int .i64 k, .string h1, .string h2, .string who, .string s1, .string s2, .string s3, .string s4, .string via] #[.int .i64 0, .int .i64 0, .int .i64 0, .int .i64 0, .int .i64 0, .int .i64 0] wx) ∧ Hid (Blk wx b6 #[.int .i64 k, .int .i64 rh, .int .i64 0, .int .i64 0, .int .i64 0, .int .i64 0]))
  case first =>
    have HT := HT.out
    obtain ⟨ca, fa, za⟩ := HT.a
    go_wp2_with fail
    clear ca fa za
    refine wp_region_held_drew (S := (fun W => ∀ o, W.cell? ⟨w.heap.size, o, none⟩ = (#[.int .i64 k, .string h1, .string h2, .string who, .string s1, .string s2, .string s3, .string s4, .string via] : Array Value)[o]?)) (by kernel_rfl) HT.drew.a.1 (fun hHeld => ?_)
    have HT := HT.drew
    obtain ⟨wk, hwk⟩ : ∃ W, W = w1.drew := ⟨_, rfl⟩
    rw [← hwk] at HT hHeld ⊢
    clear hwk
    (refine held_yes (v := ?_) 0 rfl (by kernel_rfl) (by kernel_rfl) (by kernel_rfl) (fun _ _ _ h => h) (by rfl) (by assumption) ?_ ?_; rotate_left; (focus ((intro w hSw); (try dsimp only at hSw); go_simp; (try with_reducible rfl))); (try simp only [Act.put, List.setIfInBounds_toArray, List.set_cons_zero, List.set_cons_succ])); (refine held_yes (v := ?_) 1 rfl (by kernel_rfl) (by kernel_rfl) (by kernel_rfl) (fun _ _ _ h => h) (by rfl) (by assumption) ?_ ?_; rotate_left; (focus ((intro w hSw); (try dsimp only at hSw); go_simp; (try with_reducible rfl))); (try simp only [Act.put, List.setIfInBounds_toArray, List.set_cons_zero, List.set_cons_succ])); (refine held_yes (v := ?_) 2 rfl (by kernel_rfl) (by kernel_rfl) (by kernel_rfl) (fun _ _ _ h => h) (by rfl) (by assumption) ?_ ?_; rotate_left; (focus ((intro w hSw); (try dsimp only at hSw); go_simp; (try with_reducible rfl))); (try simp only [Act.put, List.setIfInBounds_toArray, List.set_cons_zero, List.set_cons_succ])); (refine held_yes (v := ?_) 3 rfl (by kernel_rfl) (by kernel_rfl) (by kernel_rfl) (fun _ _ _ h => h) (by rfl) (by assumption) ?_ ?_; rotate_left; (focus ((intro w hSw); (try dsimp only at hSw); go_simp; (try with_reducible rfl))); (try simp only [Act.put, List.setIfInBounds_toArray, List.set_cons_zero, List.set_cons_succ])); (refine held_yes (v := ?_) 4 rfl (by kernel_rfl) (by kernel_rfl) (by kernel_rfl) (fun _ _ _ h => h) (by rfl) (by assumption) ?_ ?_; rotate_left; (focus ((intro w hSw); (try dsimp only at hSw); go_simp; (try with_reducible rfl))); (try simp only [Act.put, List.setIfInBounds_toArray, List.set_cons_zero, List.set_cons_succ])); (refine held_yes (v := ?_) 5 rfl (by kernel_rfl) (by kernel_rfl) (by kernel_rfl) (fun _ _ _ h => h) (by rfl) (by assumption) ?_ ?_; rotate_left; (focus ((intro w hSw); (try dsimp only at hSw); go_simp; (try with_reducible rfl))); (try simp only [Act.put, List.setIfInBounds_toArray, List.set_cons_zero, List.set_cons_succ]))
    refine wpAnyH_ready (rs := [6, 8]) (by kernel_rfl) (by simp) (AllReadyH.cons rfl (fun K hK => ?_) (AllReadyH.cons rfl (fun K hK => ?_) AllReadyH.nil))
    · go_simp
      go_at_call 14; refine (RH.out _ HT.low).mono ?_; rintro e wk1 ⟨rfl, hbq⟩
      have HT := HT.later hbq
      clear hbq
      (refine hK.out _ _ (HT.a.1) (fun hHeld => ?_); clear hK K; (try simp only [Act.put, List.setIfInBounds_toArray, List.set_cons_zero, List.set_cons_succ]))
      (refine held_yes (v := ?_) 7 rfl (by kernel_rfl) (by kernel_rfl) (by kernel_rfl) (fun _ _ _ h => h) (by rfl) (by assumption) ?_ ?_; rotate_left; (focus ((intro w hSw); (try dsimp only at hSw); go_simp; (try with_reducible rfl))); (try simp only [Act.put, List.setIfInBounds_toArray, List.set_cons_zero, List.set_cons_succ]))
      (refine held_call 8 rfl (by kernel_rfl) (fun K hK => ?_); go_simp)
      obtain ⟨b6, hb6⟩ : ∃ b, b = wk1.heap.size := ⟨_, rfl⟩
      obtain ⟨wk2, hwn⟩ : ∃ V, V = wk1.alloc (.cells #[.int .i64 0, .int .i64 0, .int .i64 0, .int .i64 0, .int .i64 0, .int .i64 0] 34) := ⟨_, rfl⟩
      rw [← hwn, ← hb6]
      have H6 : Blk wk2 b6 #[.int .i64 0, .int .i64 0, .int .i64 0, .int .i64 0, .int .i64 0, .int .i64 0] := by rw [hwn, hb6]; exact Blk.new _ _ _
      have lo6 : w.heap.size + 1 < b6 := by rw [hb6]; exact HT.b.2.2
      have HT : TwoAt w #[.int .i64 k, .string h1, .string h2, .string who, .string s1, .string s2, .string s3, .string s4, .string via] #[.int .i64 0, .int .i64 0, .int .i64 0, .int .i64 0, .int .i64 0, .int .i64 0] wk2 := by rw [hwn]; exact HT.alloc _
      clear hwn hb6
      (refine hK.out _ _ (HT.a.1) (fun hHeld => ?_); clear hK K; (try simp only [Act.put, List.setIfInBounds_toArray, List.set_cons_zero, List.set_cons_succ]))
      have Hc := H6
      obtain ⟨cs, fs, zs⟩ := Hc
      (refine held_call 9 rfl (by kernel_rfl) (fun K hK => ?_); go_simp)
      clear cs fs zs
      generalize hw : ((((((wk2.setCell ⟨b6, 0, none⟩ (.int .i64 k)).setCell ⟨b6, 1, none⟩ (.int .i64 rh)).setCell ⟨b6, 2, none⟩ (.int .i64 0)).setCell ⟨b6, 3, none⟩ (.int .i64 0)).setCell ⟨b6, 4, none⟩ (.int .i64 0)).setCell ⟨b6, 5, none⟩ (.int .i64 0)) = wn
      have H6 : Blk wn b6 #[.int .i64 k, .int .i64 rh, .int .i64 0, .int .i64 0, .int .i64 0, .int .i64 0] := by rw [← hw]; simpa using ((((((H6.put (o := 0) (v := .int .i64 k) (by simp)).put (o := 1) (v := .int .i64 rh) (by simp)).put (o := 2) (v := .int .i64 0) (by simp)).put (o := 3) (v := .int .i64 0) (by simp)).put (o := 4) (v := .int .i64 0) (by simp)).put (o := 5) (v := .int .i64 0) (by simp))
      have HT : TwoAt w #[.int .i64 k, .string h1, .string h2, .string who, .string s1, .string s2, .string s3, .string s4, .string via] #[.int .i64 0, .int .i64 0, .int .i64 0, .int .i64 0, .int .i64 0, .int .i64 0] wn := by rw [← hw]; exact ⟨HT.a.puts_far (g := b6) (by omega) [.int .i64 k, .int .i64 rh, .int .i64 0, .int .i64 0, .int .i64 0, .int .i64 0] 0 wk2, HT.b.puts_far (g := b6) (by omega) [.int .i64 k, .int .i64 rh, .int .i64 0, .int .i64 0, .int .i64 0, .int .i64 0] 0 wk2, below_puts (by omega) [.int .i64 k, .int .i64 rh, .int .i64 0, .int .i64 0, .int .i64 0, .int .i64 0] 0 wk2 HT.low⟩
      clear hw
      (refine hK.out _ _ (HT.a.1) (fun hHeld => ?_); clear hK K; (try simp only [Act.put, List.setIfInBounds_toArray, List.set_cons_zero, List.set_cons_succ]))
      refine wpAnyH_done (by kernel_rfl) ?_ _
      go_wp2_with fail
      go_meet
      exact ⟨b6, rfl, lo6, Lib.hid HT, Lib.hid H6⟩
    · go_simp
      obtain ⟨b6, hb6⟩ : ∃ b, b = wk.heap.size := ⟨_, rfl⟩
      obtain ⟨wk1, hwn⟩ : ∃ V, V = wk.alloc (.cells #[.int .i64 0, .int .i64 0, .int .i64 0, .int .i64 0, .int .i64 0, .int .i64 0] 34) := ⟨_, rfl⟩
      rw [← hwn, ← hb6]
      have H6 : Blk wk1 b6 #[.int .i64 0, .int .i64 0, .int .i64 0, .int .i64 0, .int .i64 0, .int .i64 0] := by rw [hwn, hb6]; exact Blk.new _ _ _
      have lo6 : w.heap.size + 1 < b6 := by rw [hb6]; exact HT.b.2.2
      have HT : TwoAt w #[.int .i64 k, .string h1, .string h2, .string who, .string s1, .string s2, .string s3, .string s4, .string via] #[.int .i64 0, .int .i64 0, .int .i64 0, .int .i64 0, .int .i64 0, .int .i64 0] wk1 := by rw [hwn]; exact HT.alloc _
      clear hwn hb6
      (refine hK.out _ _ (HT.a.1) (fun hHeld => ?_); clear hK K; (try simp only [Act.put, List.setIfInBounds_toArray, List.set_cons_zero, List.set_cons_succ]))
      (refine held_call 6 rfl (by kernel_rfl) (fun K hK => ?_); go_simp)
      go_at_call 14; refine (RH.out _ HT.low).mono ?_; rintro e wk2 ⟨rfl, hbq⟩
      have H6 := H6.below hbq
      have HT := HT.later hbq
      clear hbq
      (refine hK.out _ _ (HT.a.1) (fun hHeld => ?_); clear hK K; (try simp only [Act.put, List.setIfInBounds_toArray, List.set_cons_zero, List.set_cons_succ]))
      (refine held_yes (v := ?_) 7 rfl (by kernel_rfl) (by kernel_rfl) (by kernel_rfl) (fun _ _ _ h => h) (by rfl) (by assumption) ?_ ?_; rotate_left; (focus ((intro w hSw); (try dsimp only at hSw); go_simp; (try with_reducible rfl))); (try simp only [Act.put, List.setIfInBounds_toArray, List.set_cons_zero, List.set_cons_succ]))
      have Hc := H6
      obtain ⟨cs, fs, zs⟩ := Hc
      (refine held_call 9 rfl (by kernel_rfl) (fun K hK => ?_); go_simp)
      clear cs fs zs
      generalize hw : ((((((wk2.setCell ⟨b6, 0, none⟩ (.int .i64 k)).setCell ⟨b6, 1, none⟩ (.int .i64 rh)).setCell ⟨b6, 2, none⟩ (.int .i64 0)).setCell ⟨b6, 3, none⟩ (.int .i64 0)).setCell ⟨b6, 4, none⟩ (.int .i64 0)).setCell ⟨b6, 5, none⟩ (.int .i64 0)) = wn
      have H6 : Blk wn b6 #[.int .i64 k, .int .i64 rh, .int .i64 0, .int .i64 0, .int .i64 0, .int .i64 0] := by rw [← hw]; simpa using ((((((H6.put (o := 0) (v := .int .i64 k) (by simp)).put (o := 1) (v := .int .i64 rh) (by simp)).put (o := 2) (v := .int .i64 0) (by simp)).put (o := 3) (v := .int .i64 0) (by simp)).put (o := 4) (v := .int .i64 0) (by simp)).put (o := 5) (v := .int .i64 0) (by simp))
      have HT : TwoAt w #[.int .i64 k, .string h1, .string h2, .string who, .string s1, .string s2, .string s3, .string s4, .string via] #[.int .i64 0, .int .i64 0, .int .i64 0, .int .i64 0, .int .i64 0, .int .i64 0] wn := by rw [← hw]; exact ⟨HT.a.puts_far (g := b6) (by omega) [.int .i64 k, .int .i64 rh, .int .i64 0, .int .i64 0, .int .i64 0, .int .i64 0] 0 wk2, HT.b.puts_far (g := b6) (by omega) [.int .i64 k, .int .i64 rh, .int .i64 0, .int .i64 0, .int .i64 0, .int .i64 0] 0 wk2, below_puts (by omega) [.int .i64 k, .int .i64 rh, .int .i64 0, .int .i64 0, .int .i64 0, .int .i64 0] 0 wk2 HT.low⟩
      clear hw
      (refine hK.out _ _ (HT.a.1) (fun hHeld => ?_); clear hK K; (try simp only [Act.put, List.setIfInBounds_toArray, List.set_cons_zero, List.set_cons_succ]))
      refine wpAnyH_done (by kernel_rfl) ?_ _
      go_wp2_with fail
      go_meet
      exact ⟨b6, rfl, lo6, Lib.hid HT, Lib.hid H6⟩
  case rest =>
    clear HT RH
    obtain ⟨b6, rfl, lo6, HT, H6⟩ := hcut
    rename World => wc
    have HT := HT.out
    have H6 := H6.out
    by_cases hk : k = 1
    · skip
      subst hk
      obtain ⟨pw, hpw⟩ : ∃ x, x = placeB a who := ⟨_, rfl⟩
      have FW := Lib.hid (fun W hb => FA.out who W hb)
      rw [← hpw] at FW
      have RV : ruleR a b ⟨1, ⟨h1, h2⟩, who, ⟨s1, s2⟩, ⟨s3, s4⟩, via⟩ = ⟨1, rh, pw, 0, 0, 0⟩ := by unfold ruleR; simp [HRH.out, hpw]
      clear hpw
      rw [RV] at RR RB
      clear RV
      by_cases grh : 0 ≤ rh
      · have drh : decide (0 ≤ rh) = true := decide_eq_true grh
        by_cases gpw : 0 ≤ pw
        · have dpw : decide (0 ≤ pw) = true := decide_eq_true gpw
          have R := Lib.hid (RR.out (decide_eq_true (by simp only []; omega)))
          clear RR RB grh gpw
          obtain ⟨ca, fa, za⟩ := HT.a
          have Hc := H6
          obtain ⟨cs, fs, zs⟩ := Hc
          go_wp2_with fail
          refine (FW.out _ HT.low).mono ?_
          rintro e wq ⟨rfl, rfl⟩
          go_upto_region 7 with fail
          clear ca fa za cs fs zs
          generalize hw : wq.setCell ⟨b6, 2, none⟩ (.int .i64 pw) = wp0
          have H6 : Blk wp0 b6 #[.int .i64 1, .int .i64 rh, .int .i64 pw, .int .i64 0, .int .i64 0, .int .i64 0] := by rw [← hw]; simpa using H6.put (o := 2) (v := .int .i64 pw) (by simp)
          have HT : TwoAt w #[.int .i64 1, .string h1, .string h2, .string who, .string s1, .string s2, .string s3, .string s4, .string via] #[.int .i64 0, .int .i64 0, .int .i64 0, .int .i64 0, .int .i64 0, .int .i64 0] wp0 := by rw [← hw]; exact ⟨HT.a.far (by omega), HT.b.far (by omega), below_put HT.low (by omega)⟩
          clear hw
          obtain ⟨ca, fa, za⟩ := HT.a
          have Hc := H6
          obtain ⟨cs, fs, zs⟩ := Hc
          obtain ⟨cb, fb, zb⟩ := HT.b
          have HL := Lib.hid HT.low
          go_wp2
          refine bodyPost_ret (v := .tuple #[ruv ⟨1, rh, pw, 0, 0, 0⟩, .bool true]) (by simp [results, Try.results12, go_sem, cb]) rfl ⟨by rw [R.out], ?_⟩
          exact below_puts (by omega) [.int .i64 1, .int .i64 rh, .int .i64 pw, .int .i64 0, .int .i64 0, .int .i64 0] 0 wp0 HL.out
        · have dpw : decide (0 ≤ pw) = false := decide_eq_false gpw
          have R := Lib.hid (RB.out (decide_eq_false (by simp only []; omega)))
          clear RR RB grh gpw
          obtain ⟨ca, fa, za⟩ := HT.a
          have Hc := H6
          obtain ⟨cs, fs, zs⟩ := Hc
          go_wp2_with fail
          refine (FW.out _ HT.low).mono ?_
          rintro e wq ⟨rfl, rfl⟩
          go_upto_region 7 with fail
          clear ca fa za cs fs zs
          generalize hw : wq.setCell ⟨b6, 2, none⟩ (.int .i64 pw) = wp0
          have H6 : Blk wp0 b6 #[.int .i64 1, .int .i64 rh, .int .i64 pw, .int .i64 0, .int .i64 0, .int .i64 0] := by rw [← hw]; simpa using H6.put (o := 2) (v := .int .i64 pw) (by simp)
          have HT : TwoAt w #[.int .i64 1, .string h1, .string h2, .string who, .string s1, .string s2, .string s3, .string s4, .string via] #[.int .i64 0, .int .i64 0, .int .i64 0, .int .i64 0, .int .i64 0, .int .i64 0] wp0 := by rw [← hw]; exact ⟨HT.a.far (by omega), HT.b.far (by omega), below_put HT.low (by omega)⟩
          clear hw
          obtain ⟨ca, fa, za⟩ := HT.a
          have Hc := H6
          obtain ⟨cs, fs, zs⟩ := Hc
          obtain ⟨cb, fb, zb⟩ := HT.b
          have HL := Lib.hid HT.low
          go_wp2
          refine bodyPost_ret (v := .tuple #[ruv noRu, .bool false]) (by simp [results, Try.results12, go_sem, noRu, cb]) rfl ⟨by rw [R.out], ?_⟩
          exact below_puts (by omega) [.int .i64 0, .int .i64 0, .int .i64 0, .int .i64 0, .int .i64 0, .int .i64 0] 0 wp0 HL.out
      · have drh : decide (0 ≤ rh) = false := decide_eq_false grh
        by_cases gpw : 0 ≤ pw
        · have dpw : decide (0 ≤ pw) = true := decide_eq_true gpw
          have R := Lib.hid (RB.out (decide_eq_false (by simp only []; omega)))
          clear RR RB grh gpw
          obtain ⟨ca, fa, za⟩ := HT.a
          have Hc := H6
          obtain ⟨cs, fs, zs⟩ := Hc
          go_wp2_with fail
          refine (FW.out _ HT.low).mono ?_
          rintro e wq ⟨rfl, rfl⟩
          go_upto_region 7 with fail
          clear ca fa za cs fs zs
          generalize hw : wq.setCell ⟨b6, 2, none⟩ (.int .i64 pw) = wp0
          have H6 : Blk wp0 b6 #[.int .i64 1, .int .i64 rh, .int .i64 pw, .int .i64 0, .int .i64 0, .int .i64 0] := by rw [← hw]; simpa using H6.put (o := 2) (v := .int .i64 pw) (by simp)
          have HT : TwoAt w #[.int .i64 1, .string h1, .string h2, .string who, .string s1, .string s2, .string s3, .string s4, .string via] #[.int .i64 0, .int .i64 0, .int .i64 0, .int .i64 0, .int .i64 0, .int .i64 0] wp0 := by rw [← hw]; exact ⟨HT.a.far (by omega), HT.b.far (by omega), below_put HT.low (by omega)⟩
          clear hw
          obtain ⟨ca, fa, za⟩ := HT.a
          have Hc := H6
          obtain ⟨cs, fs, zs⟩ := Hc
          obtain ⟨cb, fb, zb⟩ := HT.b
          have HL := Lib.hid HT.low
          go_wp2
          refine bodyPost_ret (v := .tuple #[ruv noRu, .bool false]) (by simp [results, Try.results12, go_sem, noRu, cb]) rfl ⟨by rw [R.out], ?_⟩
          exact below_puts (by omega) [.int .i64 0, .int .i64 0, .int .i64 0, .int .i64 0, .int .i64 0, .int .i64 0] 0 wp0 HL.out
        · have dpw : decide (0 ≤ pw) = false := decide_eq_false gpw
          have R := Lib.hid (RB.out (decide_eq_false (by simp only []; omega)))
          clear RR RB grh gpw
          obtain ⟨ca, fa, za⟩ := HT.a
          have Hc := H6
          obtain ⟨cs, fs, zs⟩ := Hc
          go_wp2_with fail
          refine (FW.out _ HT.low).mono ?_
          rintro e wq ⟨rfl, rfl⟩
          go_upto_region 7 with fail
          clear ca fa za cs fs zs
          generalize hw : wq.setCell ⟨b6, 2, none⟩ (.int .i64 pw) = wp0
          have H6 : Blk wp0 b6 #[.int .i64 1, .int .i64 rh, .int .i64 pw, .int .i64 0, .int .i64 0, .int .i64 0] := by rw [← hw]; simpa using H6.put (o := 2) (v := .int .i64 pw) (by simp)
          have HT : TwoAt w #[.int .i64 1, .string h1, .string h2, .string who, .string s1, .string s2, .string s3, .string s4, .string via] #[.int .i64 0, .int .i64 0, .int .i64 0, .int .i64 0, .int .i64 0, .int .i64 0] wp0 := by rw [← hw]; exact ⟨HT.a.far (by omega), HT.b.far (by omega), below_put HT.low (by omega)⟩
          clear hw
          obtain ⟨ca, fa, za⟩ := HT.a
          have Hc := H6
          obtain ⟨cs, fs, zs⟩ := Hc
          obtain ⟨cb, fb, zb⟩ := HT.b
          have HL := Lib.hid HT.low
          go_wp2
          refine bodyPost_ret (v := .tuple #[ruv noRu, .bool false]) (by simp [results, Try.results12, go_sem, noRu, cb]) rfl ⟨by rw [R.out], ?_⟩
          exact below_puts (by omega) [.int .i64 0, .int .i64 0, .int .i64 0, .int .i64 0, .int .i64 0, .int .i64 0] 0 wp0 HL.out
    have n1 := hk
    clear hk
    by_cases hk : k = 2
    · skip
      subst hk
      obtain ⟨ra, hra⟩ : ∃ x, x = roleN a b ⟨s1, s2⟩ := ⟨_, rfl⟩
      have CA := Lib.hid (fun W hb => RO.out ⟨s1, s2⟩ W hb)
      rw [← hra] at CA
      have RV : ruleR a b ⟨2, ⟨h1, h2⟩, who, ⟨s1, s2⟩, ⟨s3, s4⟩, via⟩ = ⟨2, rh, 0, ra, 0, 0⟩ := by unfold ruleR; simp [HRH.out, hra]
      clear hra
      rw [RV] at RR RB
      clear RV
      by_cases grh : 0 ≤ rh
      · have drh : decide (0 ≤ rh) = true := decide_eq_true grh
        by_cases gra : 0 ≤ ra
        · have dra : decide (0 ≤ ra) = true := decide_eq_true gra
          have R := Lib.hid (RR.out (decide_eq_true (by simp only []; omega)))
          clear RR RB grh gra
          obtain ⟨ca, fa, za⟩ := HT.a
          have Hc := H6
          obtain ⟨cs, fs, zs⟩ := Hc
          go_wp2_with fail
          refine (CA.out _ HT.low).mono ?_
          rintro e wq0 ⟨rfl, hbq⟩
          clear ca fa za cs fs zs
          have HT := HT.later hbq
          have H6 := H6.below hbq
          clear hbq
          obtain ⟨ca, fa, za⟩ := HT.a
          have Hc := H6
          obtain ⟨cs, fs, zs⟩ := Hc
          go_upto_region 9 with fail
          clear ca fa za cs fs zs
          generalize hw : wq0.setCell ⟨b6, 3, none⟩ (.int .i64 ra) = wp0
          have H6 : Blk wp0 b6 #[.int .i64 2, .int .i64 rh, .int .i64 0, .int .i64 ra, .int .i64 0, .int .i64 0] := by rw [← hw]; simpa using H6.put (o := 3) (v := .int .i64 ra) (by simp)
          have HT : TwoAt w #[.int .i64 2, .string h1, .string h2, .string who, .string s1, .string s2, .string s3, .string s4, .string via] #[.int .i64 0, .int .i64 0, .int .i64 0, .int .i64 0, .int .i64 0, .int .i64 0] wp0 := by rw [← hw]; exact ⟨HT.a.far (by omega), HT.b.far (by omega), below_put HT.low (by omega)⟩
          clear hw
          obtain ⟨ca, fa, za⟩ := HT.a
          have Hc := H6
          obtain ⟨cs, fs, zs⟩ := Hc
          obtain ⟨cb, fb, zb⟩ := HT.b
          have HL := Lib.hid HT.low
          go_wp2
          refine bodyPost_ret (v := .tuple #[ruv ⟨2, rh, 0, ra, 0, 0⟩, .bool true]) (by simp [results, Try.results12, go_sem, cb]) rfl ⟨by rw [R.out], ?_⟩
          exact below_puts (by omega) [.int .i64 2, .int .i64 rh, .int .i64 0, .int .i64 ra, .int .i64 0, .int .i64 0] 0 wp0 HL.out
        · have dra : decide (0 ≤ ra) = false := decide_eq_false gra
          have R := Lib.hid (RB.out (decide_eq_false (by simp only []; omega)))
          clear RR RB grh gra
          obtain ⟨ca, fa, za⟩ := HT.a
          have Hc := H6
          obtain ⟨cs, fs, zs⟩ := Hc
          go_wp2_with fail
          refine (CA.out _ HT.low).mono ?_
          rintro e wq0 ⟨rfl, hbq⟩
          clear ca fa za cs fs zs
          have HT := HT.later hbq
          have H6 := H6.below hbq
          clear hbq
          obtain ⟨ca, fa, za⟩ := HT.a
          have Hc := H6
          obtain ⟨cs, fs, zs⟩ := Hc
          go_upto_region 9 with fail
          clear ca fa za cs fs zs
          generalize hw : wq0.setCell ⟨b6, 3, none⟩ (.int .i64 ra) = wp0
          have H6 : Blk wp0 b6 #[.int .i64 2, .int .i64 rh, .int .i64 0, .int .i64 ra, .int .i64 0, .int .i64 0] := by rw [← hw]; simpa using H6.put (o := 3) (v := .int .i64 ra) (by simp)
          have HT : TwoAt w #[.int .i64 2, .string h1, .string h2, .string who, .string s1, .string s2, .string s3, .string s4, .string via] #[.int .i64 0, .int .i64 0, .int .i64 0, .int .i64 0, .int .i64 0, .int .i64 0] wp0 := by rw [← hw]; exact ⟨HT.a.far (by omega), HT.b.far (by omega), below_put HT.low (by omega)⟩
          clear hw
          obtain ⟨ca, fa, za⟩ := HT.a
          have Hc := H6
          obtain ⟨cs, fs, zs⟩ := Hc
          obtain ⟨cb, fb, zb⟩ := HT.b
          have HL := Lib.hid HT.low
          go_wp2
          refine bodyPost_ret (v := .tuple #[ruv noRu, .bool false]) (by simp [results, Try.results12, go_sem, noRu, cb]) rfl ⟨by rw [R.out], ?_⟩
          exact below_puts (by omega) [.int .i64 0, .int .i64 0, .int .i64 0, .int .i64 0, .int .i64 0, .int .i64 0] 0 wp0 HL.out
      · have drh : decide (0 ≤ rh) = false := decide_eq_false grh
        by_cases gra : 0 ≤ ra
        · have dra : decide (0 ≤ ra) = true := decide_eq_true gra
          have R := Lib.hid (RB.out (decide_eq_false (by simp only []; omega)))
          clear RR RB grh gra
          obtain ⟨ca, fa, za⟩ := HT.a
          have Hc := H6
          obtain ⟨cs, fs, zs⟩ := Hc
          go_wp2_with fail
          refine (CA.out _ HT.low).mono ?_
          rintro e wq0 ⟨rfl, hbq⟩
          clear ca fa za cs fs zs
          have HT := HT.later hbq
          have H6 := H6.below hbq
          clear hbq
          obtain ⟨ca, fa, za⟩ := HT.a
          have Hc := H6
          obtain ⟨cs, fs, zs⟩ := Hc
          go_upto_region 9 with fail
          clear ca fa za cs fs zs
          generalize hw : wq0.setCell ⟨b6, 3, none⟩ (.int .i64 ra) = wp0
          have H6 : Blk wp0 b6 #[.int .i64 2, .int .i64 rh, .int .i64 0, .int .i64 ra, .int .i64 0, .int .i64 0] := by rw [← hw]; simpa using H6.put (o := 3) (v := .int .i64 ra) (by simp)
          have HT : TwoAt w #[.int .i64 2, .string h1, .string h2, .string who, .string s1, .string s2, .string s3, .string s4, .string via] #[.int .i64 0, .int .i64 0, .int .i64 0, .int .i64 0, .int .i64 0, .int .i64 0] wp0 := by rw [← hw]; exact ⟨HT.a.far (by omega), HT.b.far (by omega), below_put HT.low (by omega)⟩
          clear hw
          obtain ⟨ca, fa, za⟩ := HT.a
          have Hc := H6
          obtain ⟨cs, fs, zs⟩ := Hc
          obtain ⟨cb, fb, zb⟩ := HT.b
          have HL := Lib.hid HT.low
          go_wp2
          refine bodyPost_ret (v := .tuple #[ruv noRu, .bool false]) (by simp [results, Try.results12, go_sem, noRu, cb]) rfl ⟨by rw [R.out], ?_⟩
          exact below_puts (by omega) [.int .i64 0, .int .i64 0, .int .i64 0, .int .i64 0, .int .i64 0, .int .i64 0] 0 wp0 HL.out
        · have dra : decide (0 ≤ ra) = false := decide_eq_false gra
          have R := Lib.hid (RB.out (decide_eq_false (by simp only []; omega)))
          clear RR RB grh gra
          obtain ⟨ca, fa, za⟩ := HT.a
          have Hc := H6
          obtain ⟨cs, fs, zs⟩ := Hc
          go_wp2_with fail
          refine (CA.out _ HT.low).mono ?_
          rintro e wq0 ⟨rfl, hbq⟩
          clear ca fa za cs fs zs
          have HT := HT.later hbq
          have H6 := H6.below hbq
          clear hbq
          obtain ⟨ca, fa, za⟩ := HT.a
          have Hc := H6
          obtain ⟨cs, fs, zs⟩ := Hc
          go_upto_region 9 with fail
          clear ca fa za cs fs zs
          generalize hw : wq0.setCell ⟨b6, 3, none⟩ (.int .i64 ra) = wp0
          have H6 : Blk wp0 b6 #[.int .i64 2, .int .i64 rh, .int .i64 0, .int .i64 ra, .int .i64 0, .int .i64 0] := by rw [← hw]; simpa using H6.put (o := 3) (v := .int .i64 ra) (by simp)
          have HT : TwoAt w #[.int .i64 2, .string h1, .string h2, .string who, .string s1, .string s2, .string s3, .string s4, .string via] #[.int .i64 0, .int .i64 0, .int .i64 0, .int .i64 0, .int .i64 0, .int .i64 0] wp0 := by rw [← hw]; exact ⟨HT.a.far (by omega), HT.b.far (by omega), below_put HT.low (by omega)⟩
          clear hw
          obtain ⟨ca, fa, za⟩ := HT.a
          have Hc := H6
          obtain ⟨cs, fs, zs⟩ := Hc
          obtain ⟨cb, fb, zb⟩ := HT.b
          have HL := Lib.hid HT.low
          go_wp2
          refine bodyPost_ret (v := .tuple #[ruv noRu, .bool false]) (by simp [results, Try.results12, go_sem, noRu, cb]) rfl ⟨by rw [R.out], ?_⟩
          exact below_puts (by omega) [.int .i64 0, .int .i64 0, .int .i64 0, .int .i64 0, .int .i64 0, .int .i64 0] 0 wp0 HL.out
    have n2 := hk
    clear hk
    by_cases hk : k = 3
    · skip
      subst hk
      obtain ⟨ra, hra⟩ : ∃ x, x = roleN a b ⟨s1, s2⟩ := ⟨_, rfl⟩
      have CA := Lib.hid (fun W hb => RO.out ⟨s1, s2⟩ W hb)
      rw [← hra] at CA
      obtain ⟨pv, hpv⟩ : ∃ x, x = placeB b via := ⟨_, rfl⟩
      have FV := Lib.hid (fun W hb => FB.out via W hb)
      rw [← hpv] at FV
      have RV : ruleR a b ⟨3, ⟨h1, h2⟩, who, ⟨s1, s2⟩, ⟨s3, s4⟩, via⟩ = ⟨3, rh, 0, ra, 0, pv⟩ := by unfold ruleR; simp [HRH.out, hra, hpv]
      clear hra hpv
      rw [RV] at RR RB
      clear RV
      by_cases grh : 0 ≤ rh
      · have drh : decide (0 ≤ rh) = true := decide_eq_true grh
        by_cases gra : 0 ≤ ra
        · have dra : decide (0 ≤ ra) = true := decide_eq_true gra
          by_cases gpv : 0 ≤ pv
          · have dpv : decide (0 ≤ pv) = true := decide_eq_true gpv
            have R := Lib.hid (RR.out (decide_eq_true (by simp only []; omega)))
            clear RR RB grh gra gpv
            obtain ⟨ca, fa, za⟩ := HT.a
            have Hc := H6
            obtain ⟨cs, fs, zs⟩ := Hc
            go_wp2_with fail
            refine (CA.out _ HT.low).mono ?_
            rintro e wq0 ⟨rfl, hbq⟩
            clear ca fa za cs fs zs
            have HT := HT.later hbq
            have H6 := H6.below hbq
            clear hbq
            obtain ⟨ca, fa, za⟩ := HT.a
            have Hc := H6
            obtain ⟨cs, fs, zs⟩ := Hc
            go_upto_region 9 with fail
            clear ca fa za cs fs zs
            generalize hw : wq0.setCell ⟨b6, 3, none⟩ (.int .i64 ra) = wp0
            have H6 : Blk wp0 b6 #[.int .i64 3, .int .i64 rh, .int .i64 0, .int .i64 ra, .int .i64 0, .int .i64 0] := by rw [← hw]; simpa using H6.put (o := 3) (v := .int .i64 ra) (by simp)
            have HT : TwoAt w #[.int .i64 3, .string h1, .string h2, .string who, .string s1, .string s2, .string s3, .string s4, .string via] #[.int .i64 0, .int .i64 0, .int .i64 0, .int .i64 0, .int .i64 0, .int .i64 0] wp0 := by rw [← hw]; exact ⟨HT.a.far (by omega), HT.b.far (by omega), below_put HT.low (by omega)⟩
            clear hw
            obtain ⟨ca, fa, za⟩ := HT.a
            have Hc := H6
            obtain ⟨cs, fs, zs⟩ := Hc
            go_wp2_with fail
            refine (FV.out _ HT.low).mono ?_
            rintro e wq ⟨rfl, rfl⟩
            go_upto_region 12 with fail
            clear ca fa za cs fs zs
            generalize hw : wq.setCell ⟨b6, 5, none⟩ (.int .i64 pv) = wp1
            have H6 : Blk wp1 b6 #[.int .i64 3, .int .i64 rh, .int .i64 0, .int .i64 ra, .int .i64 0, .int .i64 pv] := by rw [← hw]; simpa using H6.put (o := 5) (v := .int .i64 pv) (by simp)
            have HT : TwoAt w #[.int .i64 3, .string h1, .string h2, .string who, .string s1, .string s2, .string s3, .string s4, .string via] #[.int .i64 0, .int .i64 0, .int .i64 0, .int .i64 0, .int .i64 0, .int .i64 0] wp1 := by rw [← hw]; exact ⟨HT.a.far (by omega), HT.b.far (by omega), below_put HT.low (by omega)⟩
            clear hw
            obtain ⟨ca, fa, za⟩ := HT.a
            have Hc := H6
            obtain ⟨cs, fs, zs⟩ := Hc
            obtain ⟨cb, fb, zb⟩ := HT.b
            have HL := Lib.hid HT.low
            go_wp2
            refine bodyPost_ret (v := .tuple #[ruv ⟨3, rh, 0, ra, 0, pv⟩, .bool true]) (by simp [results, Try.results12, go_sem, cb]) rfl ⟨by rw [R.out], ?_⟩
            exact below_puts (by omega) [.int .i64 3, .int .i64 rh, .int .i64 0, .int .i64 ra, .int .i64 0, .int .i64 pv] 0 wp1 HL.out
          · have dpv : decide (0 ≤ pv) = false := decide_eq_false gpv
            have R := Lib.hid (RB.out (decide_eq_false (by simp only []; omega)))
            clear RR RB grh gra gpv
            obtain ⟨ca, fa, za⟩ := HT.a
            have Hc := H6
            obtain ⟨cs, fs, zs⟩ := Hc
            go_wp2_with fail
            refine (CA.out _ HT.low).mono ?_
            rintro e wq0 ⟨rfl, hbq⟩
            clear ca fa za cs fs zs
            have HT := HT.later hbq
            have H6 := H6.below hbq
            clear hbq
            obtain ⟨ca, fa, za⟩ := HT.a
            have Hc := H6
            obtain ⟨cs, fs, zs⟩ := Hc
            go_upto_region 9 with fail
            clear ca fa za cs fs zs
            generalize hw : wq0.setCell ⟨b6, 3, none⟩ (.int .i64 ra) = wp0
            have H6 : Blk wp0 b6 #[.int .i64 3, .int .i64 rh, .int .i64 0, .int .i64 ra, .int .i64 0, .int .i64 0] := by rw [← hw]; simpa using H6.put (o := 3) (v := .int .i64 ra) (by simp)
            have HT : TwoAt w #[.int .i64 3, .string h1, .string h2, .string who, .string s1, .string s2, .string s3, .string s4, .string via] #[.int .i64 0, .int .i64 0, .int .i64 0, .int .i64 0, .int .i64 0, .int .i64 0] wp0 := by rw [← hw]; exact ⟨HT.a.far (by omega), HT.b.far (by omega), below_put HT.low (by omega)⟩
            clear hw
            obtain ⟨ca, fa, za⟩ := HT.a
            have Hc := H6
            obtain ⟨cs, fs, zs⟩ := Hc
            go_wp2_with fail
            refine (FV.out _ HT.low).mono ?_
            rintro e wq ⟨rfl, rfl⟩
            go_upto_region 12 with fail
            clear ca fa za cs fs zs
            generalize hw : wq.setCell ⟨b6, 5, none⟩ (.int .i64 pv) = wp1
            have H6 : Blk wp1 b6 #[.int .i64 3, .int .i64 rh, .int .i64 0, .int .i64 ra, .int .i64 0, .int .i64 pv] := by rw [← hw]; simpa using H6.put (o := 5) (v := .int .i64 pv) (by simp)
            have HT : TwoAt w #[.int .i64 3, .string h1, .string h2, .string who, .string s1, .string s2, .string s3, .string s4, .string via] #[.int .i64 0, .int .i64 0, .int .i64 0, .int .i64 0, .int .i64 0, .int .i64 0] wp1 := by rw [← hw]; exact ⟨HT.a.far (by omega), HT.b.far (by omega), below_put HT.low (by omega)⟩
            clear hw
            obtain ⟨ca, fa, za⟩ := HT.a
            have Hc := H6
            obtain ⟨cs, fs, zs⟩ := Hc
            obtain ⟨cb, fb, zb⟩ := HT.b
            have HL := Lib.hid HT.low
            go_wp2
            refine bodyPost_ret (v := .tuple #[ruv noRu, .bool false]) (by simp [results, Try.results12, go_sem, noRu, cb]) rfl ⟨by rw [R.out], ?_⟩
            exact below_puts (by omega) [.int .i64 0, .int .i64 0, .int .i64 0, .int .i64 0, .int .i64 0, .int .i64 0] 0 wp1 HL.out
        · have dra : decide (0 ≤ ra) = false := decide_eq_false gra
          by_cases gpv : 0 ≤ pv
          · have dpv : decide (0 ≤ pv) = true := decide_eq_true gpv
            have R := Lib.hid (RB.out (decide_eq_false (by simp only []; omega)))
            clear RR RB grh gra gpv
            obtain ⟨ca, fa, za⟩ := HT.a
            have Hc := H6
            obtain ⟨cs, fs, zs⟩ := Hc
            go_wp2_with fail
            refine (CA.out _ HT.low).mono ?_
            rintro e wq0 ⟨rfl, hbq⟩
            clear ca fa za cs fs zs
            have HT := HT.later hbq
            have H6 := H6.below hbq
            clear hbq
            obtain ⟨ca, fa, za⟩ := HT.a
            have Hc := H6
            obtain ⟨cs, fs, zs⟩ := Hc
            go_upto_region 9 with fail
            clear ca fa za cs fs zs
            generalize hw : wq0.setCell ⟨b6, 3, none⟩ (.int .i64 ra) = wp0
            have H6 : Blk wp0 b6 #[.int .i64 3, .int .i64 rh, .int .i64 0, .int .i64 ra, .int .i64 0, .int .i64 0] := by rw [← hw]; simpa using H6.put (o := 3) (v := .int .i64 ra) (by simp)
            have HT : TwoAt w #[.int .i64 3, .string h1, .string h2, .string who, .string s1, .string s2, .string s3, .string s4, .string via] #[.int .i64 0, .int .i64 0, .int .i64 0, .int .i64 0, .int .i64 0, .int .i64 0] wp0 := by rw [← hw]; exact ⟨HT.a.far (by omega), HT.b.far (by omega), below_put HT.low (by omega)⟩
            clear hw
            obtain ⟨ca, fa, za⟩ := HT.a
            have Hc := H6
            obtain ⟨cs, fs, zs⟩ := Hc
            go_wp2_with fail
            refine (FV.out _ HT.low).mono ?_
            rintro e wq ⟨rfl, rfl⟩
            go_upto_region 12 with fail
            clear ca fa za cs fs zs
            generalize hw : wq.setCell ⟨b6, 5, none⟩ (.int .i64 pv) = wp1
            have H6 : Blk wp1 b6 #[.int .i64 3, .int .i64 rh, .int .i64 0, .int .i64 ra, .int .i64 0, .int .i64 pv] := by rw [← hw]; simpa using H6.put (o := 5) (v := .int .i64 pv) (by simp)
            have HT : TwoAt w #[.int .i64 3, .string h1, .string h2, .string who, .string s1, .string s2, .string s3, .string s4, .string via] #[.int .i64 0, .int .i64 0, .int .i64 0, .int .i64 0, .int .i64 0, .int .i64 0] wp1 := by rw [← hw]; exact ⟨HT.a.far (by omega), HT.b.far (by omega), below_put HT.low (by omega)⟩
            clear hw
            obtain ⟨ca, fa, za⟩ := HT.a
            have Hc := H6
            obtain ⟨cs, fs, zs⟩ := Hc
            obtain ⟨cb, fb, zb⟩ := HT.b
            have HL := Lib.hid HT.low
            go_wp2
            refine bodyPost_ret (v := .tuple #[ruv noRu, .bool false]) (by simp [results, Try.results12, go_sem, noRu, cb]) rfl ⟨by rw [R.out], ?_⟩
            exact below_puts (by omega) [.int .i64 0, .int .i64 0, .int .i64 0, .int .i64 0, .int .i64 0, .int .i64 0] 0 wp1 HL.out
          · have dpv : decide (0 ≤ pv) = false := decide_eq_false gpv
            have R := Lib.hid (RB.out (decide_eq_false (by simp only []; omega)))
            clear RR RB grh gra gpv
            obtain ⟨ca, fa, za⟩ := HT.a
            have Hc := H6
            obtain ⟨cs, fs, zs⟩ := Hc
            go_wp2_with fail
            refine (CA.out _ HT.low).mono ?_
            rintro e wq0 ⟨rfl, hbq⟩
            clear ca fa za cs fs zs
            have HT := HT.later hbq
            have H6 := H6.below hbq
            clear hbq
            obtain ⟨ca, fa, za⟩ := HT.a
            have Hc := H6
            obtain ⟨cs, fs, zs⟩ := Hc
            go_upto_region 9 with fail
            clear ca fa za cs fs zs
            generalize hw : wq0.setCell ⟨b6, 3, none⟩ (.int .i64 ra) = wp0
            have H6 : Blk wp0 b6 #[.int .i64 3, .int .i64 rh, .int .i64 0, .int .i64 ra, .int .i64 0, .int .i64 0] := by rw [← hw]; simpa using H6.put (o := 3) (v := .int .i64 ra) (by simp)
            have HT : TwoAt w #[.int .i64 3, .string h1, .string h2, .string who, .string s1, .string s2, .string s3, .string s4, .string via] #[.int .i64 0, .int .i64 0, .int .i64 0, .int .i64 0, .int .i64 0, .int .i64 0] wp0 := by rw [← hw]; exact ⟨HT.a.far (by omega), HT.b.far (by omega), below_put HT.low (by omega)⟩
            clear hw
            obtain ⟨ca, fa, za⟩ := HT.a
            have Hc := H6
            obtain ⟨cs, fs, zs⟩ := Hc
            go_wp2_with fail
            refine (FV.out _ HT.low).mono ?_
            rintro e wq ⟨rfl, rfl⟩
            go_upto_region 12 with fail
            clear ca fa za cs fs zs
            generalize hw : wq.setCell ⟨b6, 5, none⟩ (.int .i64 pv) = wp1
            have H6 : Blk wp1 b6 #[.int .i64 3, .int .i64 rh, .int .i64 0, .int .i64 ra, .int .i64 0, .int .i64 pv] := by rw [← hw]; simpa using H6.put (o := 5) (v := .int .i64 pv) (by simp)
            have HT : TwoAt w #[.int .i64 3, .string h1, .string h2, .string who, .string s1, .string s2, .string s3, .string s4, .string via] #[.int .i64 0, .int .i64 0, .int .i64 0, .int .i64 0, .int .i64 0, .int .i64 0] wp1 := by rw [← hw]; exact ⟨HT.a.far (by omega), HT.b.far (by omega), below_put HT.low (by omega)⟩
            clear hw
            obtain ⟨ca, fa, za⟩ := HT.a
            have Hc := H6
            obtain ⟨cs, fs, zs⟩ := Hc
            obtain ⟨cb, fb, zb⟩ := HT.b
            have HL := Lib.hid HT.low
            go_wp2
            refine bodyPost_ret (v := .tuple #[ruv noRu, .bool false]) (by simp [results, Try.results12, go_sem, noRu, cb]) rfl ⟨by rw [R.out], ?_⟩
            exact below_puts (by omega) [.int .i64 0, .int .i64 0, .int .i64 0, .int .i64 0, .int .i64 0, .int .i64 0] 0 wp1 HL.out
      · have drh : decide (0 ≤ rh) = false := decide_eq_false grh
        by_cases gra : 0 ≤ ra
        · have dra : decide (0 ≤ ra) = true := decide_eq_true gra
          by_cases gpv : 0 ≤ pv
          · have dpv : decide (0 ≤ pv) = true := decide_eq_true gpv
            have R := Lib.hid (RB.out (decide_eq_false (by simp only []; omega)))
            clear RR RB grh gra gpv
            obtain ⟨ca, fa, za⟩ := HT.a
            have Hc := H6
            obtain ⟨cs, fs, zs⟩ := Hc
            go_wp2_with fail
            refine (CA.out _ HT.low).mono ?_
            rintro e wq0 ⟨rfl, hbq⟩
            clear ca fa za cs fs zs
            have HT := HT.later hbq
            have H6 := H6.below hbq
            clear hbq
            obtain ⟨ca, fa, za⟩ := HT.a
            have Hc := H6
            obtain ⟨cs, fs, zs⟩ := Hc
            go_upto_region 9 with fail
            clear ca fa za cs fs zs
            generalize hw : wq0.setCell ⟨b6, 3, none⟩ (.int .i64 ra) = wp0
            have H6 : Blk wp0 b6 #[.int .i64 3, .int .i64 rh, .int .i64 0, .int .i64 ra, .int .i64 0, .int .i64 0] := by rw [← hw]; simpa using H6.put (o := 3) (v := .int .i64 ra) (by simp)
            have HT : TwoAt w #[.int .i64 3, .string h1, .string h2, .string who, .string s1, .string s2, .string s3, .string s4, .string via] #[.int .i64 0, .int .i64 0, .int .i64 0, .int .i64 0, .int .i64 0, .int .i64 0] wp0 := by rw [← hw]; exact ⟨HT.a.far (by omega), HT.b.far (by omega), below_put HT.low (by omega)⟩
            clear hw
            obtain ⟨ca, fa, za⟩ := HT.a
            have Hc := H6
            obtain ⟨cs, fs, zs⟩ := Hc
            go_wp2_with fail
            refine (FV.out _ HT.low).mono ?_
            rintro e wq ⟨rfl, rfl⟩
            go_upto_region 12 with fail
            clear ca fa za cs fs zs
            generalize hw : wq.setCell ⟨b6, 5, none⟩ (.int .i64 pv) = wp1
            have H6 : Blk wp1 b6 #[.int .i64 3, .int .i64 rh, .int .i64 0, .int .i64 ra, .int .i64 0, .int .i64 pv] := by rw [← hw]; simpa using H6.put (o := 5) (v := .int .i64 pv) (by simp)
            have HT : TwoAt w #[.int .i64 3, .string h1, .string h2, .string who, .string s1, .string s2, .string s3, .string s4, .string via] #[.int .i64 0, .int .i64 0, .int .i64 0, .int .i64 0, .int .i64 0, .int .i64 0] wp1 := by rw [← hw]; exact ⟨HT.a.far (by omega), HT.b.far (by omega), below_put HT.low (by omega)⟩
            clear hw
            obtain ⟨ca, fa, za⟩ := HT.a
            have Hc := H6
            obtain ⟨cs, fs, zs⟩ := Hc
            obtain ⟨cb, fb, zb⟩ := HT.b
            have HL := Lib.hid HT.low
            go_wp2
            refine bodyPost_ret (v := .tuple #[ruv noRu, .bool false]) (by simp [results, Try.results12, go_sem, noRu, cb]) rfl ⟨by rw [R.out], ?_⟩
            exact below_puts (by omega) [.int .i64 0, .int .i64 0, .int .i64 0, .int .i64 0, .int .i64 0, .int .i64 0] 0 wp1 HL.out
          · have dpv : decide (0 ≤ pv) = false := decide_eq_false gpv
            have R := Lib.hid (RB.out (decide_eq_false (by simp only []; omega)))
            clear RR RB grh gra gpv
            obtain ⟨ca, fa, za⟩ := HT.a
            have Hc := H6
            obtain ⟨cs, fs, zs⟩ := Hc
            go_wp2_with fail
            refine (CA.out _ HT.low).mono ?_
            rintro e wq0 ⟨rfl, hbq⟩
            clear ca fa za cs fs zs
            have HT := HT.later hbq
            have H6 := H6.below hbq
            clear hbq
            obtain ⟨ca, fa, za⟩ := HT.a
            have Hc := H6
            obtain ⟨cs, fs, zs⟩ := Hc
            go_upto_region 9 with fail
            clear ca fa za cs fs zs
            generalize hw : wq0.setCell ⟨b6, 3, none⟩ (.int .i64 ra) = wp0
            have H6 : Blk wp0 b6 #[.int .i64 3, .int .i64 rh, .int .i64 0, .int .i64 ra, .int .i64 0, .int .i64 0] := by rw [← hw]; simpa using H6.put (o := 3) (v := .int .i64 ra) (by simp)
            have HT : TwoAt w #[.int .i64 3, .string h1, .string h2, .string who, .string s1, .string s2, .string s3, .string s4, .string via] #[.int .i64 0, .int .i64 0, .int .i64 0, .int .i64 0, .int .i64 0, .int .i64 0] wp0 := by rw [← hw]; exact ⟨HT.a.far (by omega), HT.b.far (by omega), below_put HT.low (by omega)⟩
            clear hw
            obtain ⟨ca, fa, za⟩ := HT.a
            have Hc := H6
            obtain ⟨cs, fs, zs⟩ := Hc
            go_wp2_with fail
            refine (FV.out _ HT.low).mono ?_
            rintro e wq ⟨rfl, rfl⟩
            go_upto_region 12 with fail
            clear ca fa za cs fs zs
            generalize hw : wq.setCell ⟨b6, 5, none⟩ (.int .i64 pv) = wp1
            have H6 : Blk wp1 b6 #[.int .i64 3, .int .i64 rh, .int .i64 0, .int .i64 ra, .int .i64 0, .int .i64 pv] := by rw [← hw]; simpa using H6.put (o := 5) (v := .int .i64 pv) (by simp)
            have HT : TwoAt w #[.int .i64 3, .string h1, .string h2, .string who, .string s1, .string s2, .string s3, .string s4, .string via] #[.int .i64 0, .int .i64 0, .int .i64 0, .int .i64 0, .int .i64 0, .int .i64 0] wp1 := by rw [← hw]; exact ⟨HT.a.far (by omega), HT.b.far (by omega), below_put HT.low (by omega)⟩
            clear hw
            obtain ⟨ca, fa, za⟩ := HT.a
            have Hc := H6
            obtain ⟨cs, fs, zs⟩ := Hc
            obtain ⟨cb, fb, zb⟩ := HT.b
            have HL := Lib.hid HT.low
            go_wp2
            refine bodyPost_ret (v := .tuple #[ruv noRu, .bool false]) (by simp [results, Try.results12, go_sem, noRu, cb]) rfl ⟨by rw [R.out], ?_⟩
            exact below_puts (by omega) [.int .i64 0, .int .i64 0, .int .i64 0, .int .i64 0, .int .i64 0, .int .i64 0] 0 wp1 HL.out
        · have dra : decide (0 ≤ ra) = false := decide_eq_false gra
          by_cases gpv : 0 ≤ pv
          · have dpv : decide (0 ≤ pv) = true := decide_eq_true gpv
            have R := Lib.hid (RB.out (decide_eq_false (by simp only []; omega)))
            clear RR RB grh gra gpv
            obtain ⟨ca, fa, za⟩ := HT.a
            have Hc := H6
            obtain ⟨cs, fs, zs⟩ := Hc
            go_wp2_with fail
            refine (CA.out _ HT.low).mono ?_
            rintro e wq0 ⟨rfl, hbq⟩
            clear ca fa za cs fs zs
            have HT := HT.later hbq
            have H6 := H6.below hbq
            clear hbq
            obtain ⟨ca, fa, za⟩ := HT.a
            have Hc := H6
            obtain ⟨cs, fs, zs⟩ := Hc
            go_upto_region 9 with fail
            clear ca fa za cs fs zs
            generalize hw : wq0.setCell ⟨b6, 3, none⟩ (.int .i64 ra) = wp0
            have H6 : Blk wp0 b6 #[.int .i64 3, .int .i64 rh, .int .i64 0, .int .i64 ra, .int .i64 0, .int .i64 0] := by rw [← hw]; simpa using H6.put (o := 3) (v := .int .i64 ra) (by simp)
            have HT : TwoAt w #[.int .i64 3, .string h1, .string h2, .string who, .string s1, .string s2, .string s3, .string s4, .string via] #[.int .i64 0, .int .i64 0, .int .i64 0, .int .i64 0, .int .i64 0, .int .i64 0] wp0 := by rw [← hw]; exact ⟨HT.a.far (by omega), HT.b.far (by omega), below_put HT.low (by omega)⟩
            clear hw
            obtain ⟨ca, fa, za⟩ := HT.a
            have Hc := H6
            obtain ⟨cs, fs, zs⟩ := Hc
            go_wp2_with fail
            refine (FV.out _ HT.low).mono ?_
            rintro e wq ⟨rfl, rfl⟩
            go_upto_region 12 with fail
            clear ca fa za cs fs zs
            generalize hw : wq.setCell ⟨b6, 5, none⟩ (.int .i64 pv) = wp1
            have H6 : Blk wp1 b6 #[.int .i64 3, .int .i64 rh, .int .i64 0, .int .i64 ra, .int .i64 0, .int .i64 pv] := by rw [← hw]; simpa using H6.put (o := 5) (v := .int .i64 pv) (by simp)
            have HT : TwoAt w #[.int .i64 3, .string h1, .string h2, .string who, .string s1, .string s2, .string s3, .string s4, .string via] #[.int .i64 0, .int .i64 0, .int .i64 0, .int .i64 0, .int .i64 0, .int .i64 0] wp1 := by rw [← hw]; exact ⟨HT.a.far (by omega), HT.b.far (by omega), below_put HT.low (by omega)⟩
            clear hw
            obtain ⟨ca, fa, za⟩ := HT.a
            have Hc := H6
            obtain ⟨cs, fs, zs⟩ := Hc
            obtain ⟨cb, fb, zb⟩ := HT.b
            have HL := Lib.hid HT.low
            go_wp2
            refine bodyPost_ret (v := .tuple #[ruv noRu, .bool false]) (by simp [results, Try.results12, go_sem, noRu, cb]) rfl ⟨by rw [R.out], ?_⟩
            exact below_puts (by omega) [.int .i64 0, .int .i64 0, .int .i64 0, .int .i64 0, .int .i64 0, .int .i64 0] 0 wp1 HL.out
          · have dpv : decide (0 ≤ pv) = false := decide_eq_false gpv
            have R := Lib.hid (RB.out (decide_eq_false (by simp only []; omega)))
            clear RR RB grh gra gpv
            obtain ⟨ca, fa, za⟩ := HT.a
            have Hc := H6
            obtain ⟨cs, fs, zs⟩ := Hc
            go_wp2_with fail
            refine (CA.out _ HT.low).mono ?_
            rintro e wq0 ⟨rfl, hbq⟩
            clear ca fa za cs fs zs
            have HT := HT.later hbq
            have H6 := H6.below hbq
            clear hbq
            obtain ⟨ca, fa, za⟩ := HT.a
            have Hc := H6
            obtain ⟨cs, fs, zs⟩ := Hc
            go_upto_region 9 with fail
            clear ca fa za cs fs zs
            generalize hw : wq0.setCell ⟨b6, 3, none⟩ (.int .i64 ra) = wp0
            have H6 : Blk wp0 b6 #[.int .i64 3, .int .i64 rh, .int .i64 0, .int .i64 ra, .int .i64 0, .int .i64 0] := by rw [← hw]; simpa using H6.put (o := 3) (v := .int .i64 ra) (by simp)
            have HT : TwoAt w #[.int .i64 3, .string h1, .string h2, .string who, .string s1, .string s2, .string s3, .string s4, .string via] #[.int .i64 0, .int .i64 0, .int .i64 0, .int .i64 0, .int .i64 0, .int .i64 0] wp0 := by rw [← hw]; exact ⟨HT.a.far (by omega), HT.b.far (by omega), below_put HT.low (by omega)⟩
            clear hw
            obtain ⟨ca, fa, za⟩ := HT.a
            have Hc := H6
            obtain ⟨cs, fs, zs⟩ := Hc
            go_wp2_with fail
            refine (FV.out _ HT.low).mono ?_
            rintro e wq ⟨rfl, rfl⟩
            go_upto_region 12 with fail
            clear ca fa za cs fs zs
            generalize hw : wq.setCell ⟨b6, 5, none⟩ (.int .i64 pv) = wp1
            have H6 : Blk wp1 b6 #[.int .i64 3, .int .i64 rh, .int .i64 0, .int .i64 ra, .int .i64 0, .int .i64 pv] := by rw [← hw]; simpa using H6.put (o := 5) (v := .int .i64 pv) (by simp)
            have HT : TwoAt w #[.int .i64 3, .string h1, .string h2, .string who, .string s1, .string s2, .string s3, .string s4, .string via] #[.int .i64 0, .int .i64 0, .int .i64 0, .int .i64 0, .int .i64 0, .int .i64 0] wp1 := by rw [← hw]; exact ⟨HT.a.far (by omega), HT.b.far (by omega), below_put HT.low (by omega)⟩
            clear hw
            obtain ⟨ca, fa, za⟩ := HT.a
            have Hc := H6
            obtain ⟨cs, fs, zs⟩ := Hc
            obtain ⟨cb, fb, zb⟩ := HT.b
            have HL := Lib.hid HT.low
            go_wp2
            refine bodyPost_ret (v := .tuple #[ruv noRu, .bool false]) (by simp [results, Try.results12, go_sem, noRu, cb]) rfl ⟨by rw [R.out], ?_⟩
            exact below_puts (by omega) [.int .i64 0, .int .i64 0, .int .i64 0, .int .i64 0, .int .i64 0, .int .i64 0] 0 wp1 HL.out
    have n3 := hk
    clear hk
    by_cases hk : k = 4
    · skip
      subst hk
      obtain ⟨ra, hra⟩ : ∃ x, x = roleN a b ⟨s1, s2⟩ := ⟨_, rfl⟩
      have CA := Lib.hid (fun W hb => RO.out ⟨s1, s2⟩ W hb)
      rw [← hra] at CA
      obtain ⟨rb, hrb⟩ : ∃ x, x = roleN a b ⟨s3, s4⟩ := ⟨_, rfl⟩
      have CB := Lib.hid (fun W hb => RO.out ⟨s3, s4⟩ W hb)
      rw [← hrb] at CB
      have RV : ruleR a b ⟨4, ⟨h1, h2⟩, who, ⟨s1, s2⟩, ⟨s3, s4⟩, via⟩ = ⟨4, rh, 0, ra, rb, 0⟩ := by unfold ruleR; simp [HRH.out, hra, hrb]
      clear hra hrb
      rw [RV] at RR RB
      clear RV
      by_cases grh : 0 ≤ rh
      · have drh : decide (0 ≤ rh) = true := decide_eq_true grh
        by_cases gra : 0 ≤ ra
        · have dra : decide (0 ≤ ra) = true := decide_eq_true gra
          by_cases grb : 0 ≤ rb
          · have drb : decide (0 ≤ rb) = true := decide_eq_true grb
            have R := Lib.hid (RR.out (decide_eq_true (by simp only []; omega)))
            clear RR RB grh gra grb
            obtain ⟨ca, fa, za⟩ := HT.a
            have Hc := H6
            obtain ⟨cs, fs, zs⟩ := Hc
            go_wp2_with fail
            refine (CA.out _ HT.low).mono ?_
            rintro e wq0 ⟨rfl, hbq⟩
            clear ca fa za cs fs zs
            have HT := HT.later hbq
            have H6 := H6.below hbq
            clear hbq
            obtain ⟨ca, fa, za⟩ := HT.a
            have Hc := H6
            obtain ⟨cs, fs, zs⟩ := Hc
            go_upto_region 9 with fail
            clear ca fa za cs fs zs
            generalize hw : wq0.setCell ⟨b6, 3, none⟩ (.int .i64 ra) = wp0
            have H6 : Blk wp0 b6 #[.int .i64 4, .int .i64 rh, .int .i64 0, .int .i64 ra, .int .i64 0, .int .i64 0] := by rw [← hw]; simpa using H6.put (o := 3) (v := .int .i64 ra) (by simp)
            have HT : TwoAt w #[.int .i64 4, .string h1, .string h2, .string who, .string s1, .string s2, .string s3, .string s4, .string via] #[.int .i64 0, .int .i64 0, .int .i64 0, .int .i64 0, .int .i64 0, .int .i64 0] wp0 := by rw [← hw]; exact ⟨HT.a.far (by omega), HT.b.far (by omega), below_put HT.low (by omega)⟩
            clear hw
            obtain ⟨ca, fa, za⟩ := HT.a
            have Hc := H6
            obtain ⟨cs, fs, zs⟩ := Hc
            go_wp2_with fail
            refine (CB.out _ HT.low).mono ?_
            rintro e wq1 ⟨rfl, hbq⟩
            clear ca fa za cs fs zs
            have HT := HT.later hbq
            have H6 := H6.below hbq
            clear hbq
            obtain ⟨ca, fa, za⟩ := HT.a
            have Hc := H6
            obtain ⟨cs, fs, zs⟩ := Hc
            go_upto_region 15 with fail
            clear ca fa za cs fs zs
            generalize hw : wq1.setCell ⟨b6, 4, none⟩ (.int .i64 rb) = wp1
            have H6 : Blk wp1 b6 #[.int .i64 4, .int .i64 rh, .int .i64 0, .int .i64 ra, .int .i64 rb, .int .i64 0] := by rw [← hw]; simpa using H6.put (o := 4) (v := .int .i64 rb) (by simp)
            have HT : TwoAt w #[.int .i64 4, .string h1, .string h2, .string who, .string s1, .string s2, .string s3, .string s4, .string via] #[.int .i64 0, .int .i64 0, .int .i64 0, .int .i64 0, .int .i64 0, .int .i64 0] wp1 := by rw [← hw]; exact ⟨HT.a.far (by omega), HT.b.far (by omega), below_put HT.low (by omega)⟩
            clear hw
            obtain ⟨ca, fa, za⟩ := HT.a
            have Hc := H6
            obtain ⟨cs, fs, zs⟩ := Hc
            obtain ⟨cb, fb, zb⟩ := HT.b
            have HL := Lib.hid HT.low
            go_wp2
            refine bodyPost_ret (v := .tuple #[ruv ⟨4, rh, 0, ra, rb, 0⟩, .bool true]) (by simp [results, Try.results12, go_sem, cb]) rfl ⟨by rw [R.out], ?_⟩
            exact below_puts (by omega) [.int .i64 4, .int .i64 rh, .int .i64 0, .int .i64 ra, .int .i64 rb, .int .i64 0] 0 wp1 HL.out
          · have drb : decide (0 ≤ rb) = false := decide_eq_false grb
            have R := Lib.hid (RB.out (decide_eq_false (by simp only []; omega)))
            clear RR RB grh gra grb
            obtain ⟨ca, fa, za⟩ := HT.a
            have Hc := H6
            obtain ⟨cs, fs, zs⟩ := Hc
            go_wp2_with fail
            refine (CA.out _ HT.low).mono ?_
            rintro e wq0 ⟨rfl, hbq⟩
            clear ca fa za cs fs zs
            have HT := HT.later hbq
            have H6 := H6.below hbq
            clear hbq
            obtain ⟨ca, fa, za⟩ := HT.a
            have Hc := H6
            obtain ⟨cs, fs, zs⟩ := Hc
            go_upto_region 9 with fail
            clear ca fa za cs fs zs
            generalize hw : wq0.setCell ⟨b6, 3, none⟩ (.int .i64 ra) = wp0
            have H6 : Blk wp0 b6 #[.int .i64 4, .int .i64 rh, .int .i64 0, .int .i64 ra, .int .i64 0, .int .i64 0] := by rw [← hw]; simpa using H6.put (o := 3) (v := .int .i64 ra) (by simp)
            have HT : TwoAt w #[.int .i64 4, .string h1, .string h2, .string who, .string s1, .string s2, .string s3, .string s4, .string via] #[.int .i64 0, .int .i64 0, .int .i64 0, .int .i64 0, .int .i64 0, .int .i64 0] wp0 := by rw [← hw]; exact ⟨HT.a.far (by omega), HT.b.far (by omega), below_put HT.low (by omega)⟩
            clear hw
            obtain ⟨ca, fa, za⟩ := HT.a
            have Hc := H6
            obtain ⟨cs, fs, zs⟩ := Hc
            go_wp2_with fail
            refine (CB.out _ HT.low).mono ?_
            rintro e wq1 ⟨rfl, hbq⟩
            clear ca fa za cs fs zs
            have HT := HT.later hbq
            have H6 := H6.below hbq
            clear hbq
            obtain ⟨ca, fa, za⟩ := HT.a
            have Hc := H6
            obtain ⟨cs, fs, zs⟩ := Hc
            go_upto_region 15 with fail
            clear ca fa za cs fs zs
            generalize hw : wq1.setCell ⟨b6, 4, none⟩ (.int .i64 rb) = wp1
            have H6 : Blk wp1 b6 #[.int .i64 4, .int .i64 rh, .int .i64 0, .int .i64 ra, .int .i64 rb, .int .i64 0] := by rw [← hw]; simpa using H6.put (o := 4) (v := .int .i64 rb) (by simp)
            have HT : TwoAt w #[.int .i64 4, .string h1, .string h2, .string who, .string s1, .string s2, .string s3, .string s4, .string via] #[.int .i64 0, .int .i64 0, .int .i64 0, .int .i64 0, .int .i64 0, .int .i64 0] wp1 := by rw [← hw]; exact ⟨HT.a.far (by omega), HT.b.far (by omega), below_put HT.low (by omega)⟩
            clear hw
            obtain ⟨ca, fa, za⟩ := HT.a
            have Hc := H6
            obtain ⟨cs, fs, zs⟩ := Hc
            obtain ⟨cb, fb, zb⟩ := HT.b
            have HL := Lib.hid HT.low
            go_wp2
            refine bodyPost_ret (v := .tuple #[ruv noRu, .bool false]) (by simp [results, Try.results12, go_sem, noRu, cb]) rfl ⟨by rw [R.out], ?_⟩
            exact below_puts (by omega) [.int .i64 0, .int .i64 0, .int .i64 0, .int .i64 0, .int .i64 0, .int .i64 0] 0 wp1 HL.out
        · have dra : decide (0 ≤ ra) = false := decide_eq_false gra
          by_cases grb : 0 ≤ rb
          · have drb : decide (0 ≤ rb) = true := decide_eq_true grb
            have R := Lib.hid (RB.out (decide_eq_false (by simp only []; omega)))
            clear RR RB grh gra grb
            obtain ⟨ca, fa, za⟩ := HT.a
            have Hc := H6
            obtain ⟨cs, fs, zs⟩ := Hc
            go_wp2_with fail
            refine (CA.out _ HT.low).mono ?_
            rintro e wq0 ⟨rfl, hbq⟩
            clear ca fa za cs fs zs
            have HT := HT.later hbq
            have H6 := H6.below hbq
            clear hbq
            obtain ⟨ca, fa, za⟩ := HT.a
            have Hc := H6
            obtain ⟨cs, fs, zs⟩ := Hc
            go_upto_region 9 with fail
            clear ca fa za cs fs zs
            generalize hw : wq0.setCell ⟨b6, 3, none⟩ (.int .i64 ra) = wp0
            have H6 : Blk wp0 b6 #[.int .i64 4, .int .i64 rh, .int .i64 0, .int .i64 ra, .int .i64 0, .int .i64 0] := by rw [← hw]; simpa using H6.put (o := 3) (v := .int .i64 ra) (by simp)
            have HT : TwoAt w #[.int .i64 4, .string h1, .string h2, .string who, .string s1, .string s2, .string s3, .string s4, .string via] #[.int .i64 0, .int .i64 0, .int .i64 0, .int .i64 0, .int .i64 0, .int .i64 0] wp0 := by rw [← hw]; exact ⟨HT.a.far (by omega), HT.b.far (by omega), below_put HT.low (by omega)⟩
            clear hw
            obtain ⟨ca, fa, za⟩ := HT.a
            have Hc := H6
            obtain ⟨cs, fs, zs⟩ := Hc
            go_wp2_with fail
            refine (CB.out _ HT.low).mono ?_
            rintro e wq1 ⟨rfl, hbq⟩
            clear ca fa za cs fs zs
            have HT := HT.later hbq
            have H6 := H6.below hbq
            clear hbq
            obtain ⟨ca, fa, za⟩ := HT.a
            have Hc := H6
            obtain ⟨cs, fs, zs⟩ := Hc
            go_upto_region 15 with fail
            clear ca fa za cs fs zs
            generalize hw : wq1.setCell ⟨b6, 4, none⟩ (.int .i64 rb) = wp1
            have H6 : Blk wp1 b6 #[.int .i64 4, .int .i64 rh, .int .i64 0, .int .i64 ra, .int .i64 rb, .int .i64 0] := by rw [← hw]; simpa using H6.put (o := 4) (v := .int .i64 rb) (by simp)
            have HT : TwoAt w #[.int .i64 4, .string h1, .string h2, .string who, .string s1, .string s2, .string s3, .string s4, .string via] #[.int .i64 0, .int .i64 0, .int .i64 0, .int .i64 0, .int .i64 0, .int .i64 0] wp1 := by rw [← hw]; exact ⟨HT.a.far (by omega), HT.b.far (by omega), below_put HT.low (by omega)⟩
            clear hw
            obtain ⟨ca, fa, za⟩ := HT.a
            have Hc := H6
            obtain ⟨cs, fs, zs⟩ := Hc
            obtain ⟨cb, fb, zb⟩ := HT.b
            have HL := Lib.hid HT.low
            go_wp2
            refine bodyPost_ret (v := .tuple #[ruv noRu, .bool false]) (by simp [results, Try.results12, go_sem, noRu, cb]) rfl ⟨by rw [R.out], ?_⟩
            exact below_puts (by omega) [.int .i64 0, .int .i64 0, .int .i64 0, .int .i64 0, .int .i64 0, .int .i64 0] 0 wp1 HL.out
          · have drb : decide (0 ≤ rb) = false := decide_eq_false grb
            have R := Lib.hid (RB.out (decide_eq_false (by simp only []; omega)))
            clear RR RB grh gra grb
            obtain ⟨ca, fa, za⟩ := HT.a
            have Hc := H6
            obtain ⟨cs, fs, zs⟩ := Hc
            go_wp2_with fail
            refine (CA.out _ HT.low).mono ?_
            rintro e wq0 ⟨rfl, hbq⟩
            clear ca fa za cs fs zs
            have HT := HT.later hbq
            have H6 := H6.below hbq
            clear hbq
            obtain ⟨ca, fa, za⟩ := HT.a
            have Hc := H6
            obtain ⟨cs, fs, zs⟩ := Hc
            go_upto_region 9 with fail
            clear ca fa za cs fs zs
            generalize hw : wq0.setCell ⟨b6, 3, none⟩ (.int .i64 ra) = wp0
            have H6 : Blk wp0 b6 #[.int .i64 4, .int .i64 rh, .int .i64 0, .int .i64 ra, .int .i64 0, .int .i64 0] := by rw [← hw]; simpa using H6.put (o := 3) (v := .int .i64 ra) (by simp)
            have HT : TwoAt w #[.int .i64 4, .string h1, .string h2, .string who, .string s1, .string s2, .string s3, .string s4, .string via] #[.int .i64 0, .int .i64 0, .int .i64 0, .int .i64 0, .int .i64 0, .int .i64 0] wp0 := by rw [← hw]; exact ⟨HT.a.far (by omega), HT.b.far (by omega), below_put HT.low (by omega)⟩
            clear hw
            obtain ⟨ca, fa, za⟩ := HT.a
            have Hc := H6
            obtain ⟨cs, fs, zs⟩ := Hc
            go_wp2_with fail
            refine (CB.out _ HT.low).mono ?_
            rintro e wq1 ⟨rfl, hbq⟩
            clear ca fa za cs fs zs
            have HT := HT.later hbq
            have H6 := H6.below hbq
            clear hbq
            obtain ⟨ca, fa, za⟩ := HT.a
            have Hc := H6
            obtain ⟨cs, fs, zs⟩ := Hc
            go_upto_region 15 with fail
            clear ca fa za cs fs zs
            generalize hw : wq1.setCell ⟨b6, 4, none⟩ (.int .i64 rb) = wp1
            have H6 : Blk wp1 b6 #[.int .i64 4, .int .i64 rh, .int .i64 0, .int .i64 ra, .int .i64 rb, .int .i64 0] := by rw [← hw]; simpa using H6.put (o := 4) (v := .int .i64 rb) (by simp)
            have HT : TwoAt w #[.int .i64 4, .string h1, .string h2, .string who, .string s1, .string s2, .string s3, .string s4, .string via] #[.int .i64 0, .int .i64 0, .int .i64 0, .int .i64 0, .int .i64 0, .int .i64 0] wp1 := by rw [← hw]; exact ⟨HT.a.far (by omega), HT.b.far (by omega), below_put HT.low (by omega)⟩
            clear hw
            obtain ⟨ca, fa, za⟩ := HT.a
            have Hc := H6
            obtain ⟨cs, fs, zs⟩ := Hc
            obtain ⟨cb, fb, zb⟩ := HT.b
            have HL := Lib.hid HT.low
            go_wp2
            refine bodyPost_ret (v := .tuple #[ruv noRu, .bool false]) (by simp [results, Try.results12, go_sem, noRu, cb]) rfl ⟨by rw [R.out], ?_⟩
            exact below_puts (by omega) [.int .i64 0, .int .i64 0, .int .i64 0, .int .i64 0, .int .i64 0, .int .i64 0] 0 wp1 HL.out
      · have drh : decide (0 ≤ rh) = false := decide_eq_false grh
        by_cases gra : 0 ≤ ra
        · have dra : decide (0 ≤ ra) = true := decide_eq_true gra
          by_cases grb : 0 ≤ rb
          · have drb : decide (0 ≤ rb) = true := decide_eq_true grb
            have R := Lib.hid (RB.out (decide_eq_false (by simp only []; omega)))
            clear RR RB grh gra grb
            obtain ⟨ca, fa, za⟩ := HT.a
            have Hc := H6
            obtain ⟨cs, fs, zs⟩ := Hc
            go_wp2_with fail
            refine (CA.out _ HT.low).mono ?_
            rintro e wq0 ⟨rfl, hbq⟩
            clear ca fa za cs fs zs
            have HT := HT.later hbq
            have H6 := H6.below hbq
            clear hbq
            obtain ⟨ca, fa, za⟩ := HT.a
            have Hc := H6
            obtain ⟨cs, fs, zs⟩ := Hc
            go_upto_region 9 with fail
            clear ca fa za cs fs zs
            generalize hw : wq0.setCell ⟨b6, 3, none⟩ (.int .i64 ra) = wp0
            have H6 : Blk wp0 b6 #[.int .i64 4, .int .i64 rh, .int .i64 0, .int .i64 ra, .int .i64 0, .int .i64 0] := by rw [← hw]; simpa using H6.put (o := 3) (v := .int .i64 ra) (by simp)
            have HT : TwoAt w #[.int .i64 4, .string h1, .string h2, .string who, .string s1, .string s2, .string s3, .string s4, .string via] #[.int .i64 0, .int .i64 0, .int .i64 0, .int .i64 0, .int .i64 0, .int .i64 0] wp0 := by rw [← hw]; exact ⟨HT.a.far (by omega), HT.b.far (by omega), below_put HT.low (by omega)⟩
            clear hw
            obtain ⟨ca, fa, za⟩ := HT.a
            have Hc := H6
            obtain ⟨cs, fs, zs⟩ := Hc
            go_wp2_with fail
            refine (CB.out _ HT.low).mono ?_
            rintro e wq1 ⟨rfl, hbq⟩
            clear ca fa za cs fs zs
            have HT := HT.later hbq
            have H6 := H6.below hbq
            clear hbq
            obtain ⟨ca, fa, za⟩ := HT.a
            have Hc := H6
            obtain ⟨cs, fs, zs⟩ := Hc
            go_upto_region 15 with fail
            clear ca fa za cs fs zs
            generalize hw : wq1.setCell ⟨b6, 4, none⟩ (.int .i64 rb) = wp1
            have H6 : Blk wp1 b6 #[.int .i64 4, .int .i64 rh, .int .i64 0, .int .i64 ra, .int .i64 rb, .int .i64 0] := by rw [← hw]; simpa using H6.put (o := 4) (v := .int .i64 rb) (by simp)
            have HT : TwoAt w #[.int .i64 4, .string h1, .string h2, .string who, .string s1, .string s2, .string s3, .string s4, .string via] #[.int .i64 0, .int .i64 0, .int .i64 0, .int .i64 0, .int .i64 0, .int .i64 0] wp1 := by rw [← hw]; exact ⟨HT.a.far (by omega), HT.b.far (by omega), below_put HT.low (by omega)⟩
            clear hw
            obtain ⟨ca, fa, za⟩ := HT.a
            have Hc := H6
            obtain ⟨cs, fs, zs⟩ := Hc
            obtain ⟨cb, fb, zb⟩ := HT.b
            have HL := Lib.hid HT.low
            go_wp2
            refine bodyPost_ret (v := .tuple #[ruv noRu, .bool false]) (by simp [results, Try.results12, go_sem, noRu, cb]) rfl ⟨by rw [R.out], ?_⟩
            exact below_puts (by omega) [.int .i64 0, .int .i64 0, .int .i64 0, .int .i64 0, .int .i64 0, .int .i64 0] 0 wp1 HL.out
          · have drb : decide (0 ≤ rb) = false := decide_eq_false grb
            have R := Lib.hid (RB.out (decide_eq_false (by simp only []; omega)))
            clear RR RB grh gra grb
            obtain ⟨ca, fa, za⟩ := HT.a
            have Hc := H6
            obtain ⟨cs, fs, zs⟩ := Hc
            go_wp2_with fail
            refine (CA.out _ HT.low).mono ?_
            rintro e wq0 ⟨rfl, hbq⟩
            clear ca fa za cs fs zs
            have HT := HT.later hbq
            have H6 := H6.below hbq
            clear hbq
            obtain ⟨ca, fa, za⟩ := HT.a
            have Hc := H6
            obtain ⟨cs, fs, zs⟩ := Hc
            go_upto_region 9 with fail
            clear ca fa za cs fs zs
            generalize hw : wq0.setCell ⟨b6, 3, none⟩ (.int .i64 ra) = wp0
            have H6 : Blk wp0 b6 #[.int .i64 4, .int .i64 rh, .int .i64 0, .int .i64 ra, .int .i64 0, .int .i64 0] := by rw [← hw]; simpa using H6.put (o := 3) (v := .int .i64 ra) (by simp)
            have HT : TwoAt w #[.int .i64 4, .string h1, .string h2, .string who, .string s1, .string s2, .string s3, .string s4, .string via] #[.int .i64 0, .int .i64 0, .int .i64 0, .int .i64 0, .int .i64 0, .int .i64 0] wp0 := by rw [← hw]; exact ⟨HT.a.far (by omega), HT.b.far (by omega), below_put HT.low (by omega)⟩
            clear hw
            obtain ⟨ca, fa, za⟩ := HT.a
            have Hc := H6
            obtain ⟨cs, fs, zs⟩ := Hc
            go_wp2_with fail
            refine (CB.out _ HT.low).mono ?_
            rintro e wq1 ⟨rfl, hbq⟩
            clear ca fa za cs fs zs
            have HT := HT.later hbq
            have H6 := H6.below hbq
            clear hbq
            obtain ⟨ca, fa, za⟩ := HT.a
            have Hc := H6
            obtain ⟨cs, fs, zs⟩ := Hc
            go_upto_region 15 with fail
            clear ca fa za cs fs zs
            generalize hw : wq1.setCell ⟨b6, 4, none⟩ (.int .i64 rb) = wp1
            have H6 : Blk wp1 b6 #[.int .i64 4, .int .i64 rh, .int .i64 0, .int .i64 ra, .int .i64 rb, .int .i64 0] := by rw [← hw]; simpa using H6.put (o := 4) (v := .int .i64 rb) (by simp)
            have HT : TwoAt w #[.int .i64 4, .string h1, .string h2, .string who, .string s1, .string s2, .string s3, .string s4, .string via] #[.int .i64 0, .int .i64 0, .int .i64 0, .int .i64 0, .int .i64 0, .int .i64 0] wp1 := by rw [← hw]; exact ⟨HT.a.far (by omega), HT.b.far (by omega), below_put HT.low (by omega)⟩
            clear hw
            obtain ⟨ca, fa, za⟩ := HT.a
            have Hc := H6
            obtain ⟨cs, fs, zs⟩ := Hc
            obtain ⟨cb, fb, zb⟩ := HT.b
            have HL := Lib.hid HT.low
            go_wp2
            refine bodyPost_ret (v := .tuple #[ruv noRu, .bool false]) (by simp [results, Try.results12, go_sem, noRu, cb]) rfl ⟨by rw [R.out], ?_⟩
            exact below_puts (by omega) [.int .i64 0, .int .i64 0, .int .i64 0, .int .i64 0, .int .i64 0, .int .i64 0] 0 wp1 HL.out
        · have dra : decide (0 ≤ ra) = false := decide_eq_false gra
          by_cases grb : 0 ≤ rb
          · have drb : decide (0 ≤ rb) = true := decide_eq_true grb
            have R := Lib.hid (RB.out (decide_eq_false (by simp only []; omega)))
            clear RR RB grh gra grb
            obtain ⟨ca, fa, za⟩ := HT.a
            have Hc := H6
            obtain ⟨cs, fs, zs⟩ := Hc
            go_wp2_with fail
            refine (CA.out _ HT.low).mono ?_
            rintro e wq0 ⟨rfl, hbq⟩
            clear ca fa za cs fs zs
            have HT := HT.later hbq
            have H6 := H6.below hbq
            clear hbq
            obtain ⟨ca, fa, za⟩ := HT.a
            have Hc := H6
            obtain ⟨cs, fs, zs⟩ := Hc
            go_upto_region 9 with fail
            clear ca fa za cs fs zs
            generalize hw : wq0.setCell ⟨b6, 3, none⟩ (.int .i64 ra) = wp0
            have H6 : Blk wp0 b6 #[.int .i64 4, .int .i64 rh, .int .i64 0, .int .i64 ra, .int .i64 0, .int .i64 0] := by rw [← hw]; simpa using H6.put (o := 3) (v := .int .i64 ra) (by simp)
            have HT : TwoAt w #[.int .i64 4, .string h1, .string h2, .string who, .string s1, .string s2, .string s3, .string s4, .string via] #[.int .i64 0, .int .i64 0, .int .i64 0, .int .i64 0, .int .i64 0, .int .i64 0] wp0 := by rw [← hw]; exact ⟨HT.a.far (by omega), HT.b.far (by omega), below_put HT.low (by omega)⟩
            clear hw
            obtain ⟨ca, fa, za⟩ := HT.a
            have Hc := H6
            obtain ⟨cs, fs, zs⟩ := Hc
            go_wp2_with fail
            refine (CB.out _ HT.low).mono ?_
            rintro e wq1 ⟨rfl, hbq⟩
            clear ca fa za cs fs zs
            have HT := HT.later hbq
            have H6 := H6.below hbq
            clear hbq
            obtain ⟨ca, fa, za⟩ := HT.a
            have Hc := H6
            obtain ⟨cs, fs, zs⟩ := Hc
            go_upto_region 15 with fail
            clear ca fa za cs fs zs
            generalize hw : wq1.setCell ⟨b6, 4, none⟩ (.int .i64 rb) = wp1
            have H6 : Blk wp1 b6 #[.int .i64 4, .int .i64 rh, .int .i64 0, .int .i64 ra, .int .i64 rb, .int .i64 0] := by rw [← hw]; simpa using H6.put (o := 4) (v := .int .i64 rb) (by simp)
            have HT : TwoAt w #[.int .i64 4, .string h1, .string h2, .string who, .string s1, .string s2, .string s3, .string s4, .string via] #[.int .i64 0, .int .i64 0, .int .i64 0, .int .i64 0, .int .i64 0, .int .i64 0] wp1 := by rw [← hw]; exact ⟨HT.a.far (by omega), HT.b.far (by omega), below_put HT.low (by omega)⟩
            clear hw
            obtain ⟨ca, fa, za⟩ := HT.a
            have Hc := H6
            obtain ⟨cs, fs, zs⟩ := Hc
            obtain ⟨cb, fb, zb⟩ := HT.b
            have HL := Lib.hid HT.low
            go_wp2
            refine bodyPost_ret (v := .tuple #[ruv noRu, .bool false]) (by simp [results, Try.results12, go_sem, noRu, cb]) rfl ⟨by rw [R.out], ?_⟩
            exact below_puts (by omega) [.int .i64 0, .int .i64 0, .int .i64 0, .int .i64 0, .int .i64 0, .int .i64 0] 0 wp1 HL.out
          · have drb : decide (0 ≤ rb) = false := decide_eq_false grb
            have R := Lib.hid (RB.out (decide_eq_false (by simp only []; omega)))
            clear RR RB grh gra grb
            obtain ⟨ca, fa, za⟩ := HT.a
            have Hc := H6
            obtain ⟨cs, fs, zs⟩ := Hc
            go_wp2_with fail
            refine (CA.out _ HT.low).mono ?_
            rintro e wq0 ⟨rfl, hbq⟩
            clear ca fa za cs fs zs
            have HT := HT.later hbq
            have H6 := H6.below hbq
            clear hbq
            obtain ⟨ca, fa, za⟩ := HT.a
            have Hc := H6
            obtain ⟨cs, fs, zs⟩ := Hc
            go_upto_region 9 with fail
            clear ca fa za cs fs zs
            generalize hw : wq0.setCell ⟨b6, 3, none⟩ (.int .i64 ra) = wp0
            have H6 : Blk wp0 b6 #[.int .i64 4, .int .i64 rh, .int .i64 0, .int .i64 ra, .int .i64 0, .int .i64 0] := by rw [← hw]; simpa using H6.put (o := 3) (v := .int .i64 ra) (by simp)
            have HT : TwoAt w #[.int .i64 4, .string h1, .string h2, .string who, .string s1, .string s2, .string s3, .string s4, .string via] #[.int .i64 0, .int .i64 0, .int .i64 0, .int .i64 0, .int .i64 0, .int .i64 0] wp0 := by rw [← hw]; exact ⟨HT.a.far (by omega), HT.b.far (by omega), below_put HT.low (by omega)⟩
            clear hw
            obtain ⟨ca, fa, za⟩ := HT.a
            have Hc := H6
            obtain ⟨cs, fs, zs⟩ := Hc
            go_wp2_with fail
            refine (CB.out _ HT.low).mono ?_
            rintro e wq1 ⟨rfl, hbq⟩
            clear ca fa za cs fs zs
            have HT := HT.later hbq
            have H6 := H6.below hbq
            clear hbq
            obtain ⟨ca, fa, za⟩ := HT.a
            have Hc := H6
            obtain ⟨cs, fs, zs⟩ := Hc
            go_upto_region 15 with fail
            clear ca fa za cs fs zs
            generalize hw : wq1.setCell ⟨b6, 4, none⟩ (.int .i64 rb) = wp1
            have H6 : Blk wp1 b6 #[.int .i64 4, .int .i64 rh, .int .i64 0, .int .i64 ra, .int .i64 rb, .int .i64 0] := by rw [← hw]; simpa using H6.put (o := 4) (v := .int .i64 rb) (by simp)
            have HT : TwoAt w #[.int .i64 4, .string h1, .string h2, .string who, .string s1, .string s2, .string s3, .string s4, .string via] #[.int .i64 0, .int .i64 0, .int .i64 0, .int .i64 0, .int .i64 0, .int .i64 0] wp1 := by rw [← hw]; exact ⟨HT.a.far (by omega), HT.b.far (by omega), below_put HT.low (by omega)⟩
            clear hw
            obtain ⟨ca, fa, za⟩ := HT.a
            have Hc := H6
            obtain ⟨cs, fs, zs⟩ := Hc
            obtain ⟨cb, fb, zb⟩ := HT.b
            have HL := Lib.hid HT.low
            go_wp2
            refine bodyPost_ret (v := .tuple #[ruv noRu, .bool false]) (by simp [results, Try.results12, go_sem, noRu, cb]) rfl ⟨by rw [R.out], ?_⟩
            exact below_puts (by omega) [.int .i64 0, .int .i64 0, .int .i64 0, .int .i64 0, .int .i64 0, .int .i64 0] 0 wp1 HL.out
    have hr := HR.out
    rw [rightS0 k _ _ _ _ _ n1 n2 n3 hk] at hr
    cases hr
end Go.Proofs.Ythickpocfplcoaa
