/- table.Table.Rule (printed by gen_tabrule.py). Rules compared; the role of a number. table.For and (*table.Table).Rules; crupperref06.Same of the same rules. -/
import Derived.Test.YthickpocfplcoaaPart10
import Derived.Test.YthickpocfplcoaaPart5
import Derived.Test.YthickpocfplcoaaPart2
namespace Go.Proofs.Ythickpocfplcoaa
open Go.RowKit Go.Shelf

theorem ruleN_no {a b : List ByteArray} {s : St} (h : rightS s = false) : ruleN a b s = (noRu, false) := by unfold ruleN; rw [if_neg (fun h' => by rw [h] at h'; exact Bool.false_ne_true h'.1)]
theorem ruleN_bad {a b : List ByteArray} {s : St} (h : ruleOk (ruleR a b s) = false) : ruleN a b s = (noRu, false) := by unfold ruleN; rw [if_neg (fun h' => by rw [h] at h'; exact Bool.false_ne_true h'.2)]
theorem ruleN_ok {a b : List ByteArray} {s : St} (h : rightS s = true) (h' : ruleOk (ruleR a b s) = true) : ruleN a b s = (ruleR a b s, true) := by unfold ruleN; rw [if_pos ⟨h, h'⟩]
theorem run_min5 {P : Program} (ts : Array TypeId) (t : TypeId) (x0 x1 x2 x3 x4 : Int) : ∃ m, (∀ w, (Builtin.min_ ts t #[.int .i64 x0, .int .i64 x1, .int .i64 x2, .int .i64 x3, .int .i64 x4]).run P w = .ok (.int .i64 m) w) ∧ decide (m < 0) = !decide (0 ≤ x0 ∧ 0 ≤ x1 ∧ 0 ≤ x2 ∧ 0 ≤ x3 ∧ 0 ≤ x4) := by
  obtain ⟨m1, h1⟩ : ∃ m, m = if x1 < x0 then x1 else x0 := ⟨_, rfl⟩
  obtain ⟨m2, h2⟩ : ∃ m, m = if x2 < m1 then x2 else m1 := ⟨_, rfl⟩
  obtain ⟨m3, h3⟩ : ∃ m, m = if x3 < m2 then x3 else m2 := ⟨_, rfl⟩
  obtain ⟨m4, h4⟩ : ∃ m, m = if x4 < m3 then x4 else m3 := ⟨_, rfl⟩
  refine ⟨m4, fun w => ?_, ?_⟩
  · simp [Builtin.min_, Builtin.min2, ← h1, ← h2, ← h3, ← h4]
  · rw [Bool.eq_iff_iff, decide_eq_true_iff, Bool.not_eq_true', decide_eq_false_iff_not]
    split at h1 <;> split at h2 <;> split at h3 <;> split at h4 <;> omega
theorem TwoAt.new' (w : World) (A B : Array Value) (t u : TypeId) : TwoAt w A B ((w.alloc (.cells A t)).alloc (.cells B u)) :=
  ⟨(Blk.new w A t).alloc _, by have := Blk.new (w.alloc (.cells A t)) B u; simpa using this, ((Below.refl _ _).alloc (Nat.le_refl _) _).alloc (by simp) _⟩

set_option maxRecDepth 100000 in
set_option maxHeartbeats 16000000 in
theorem table_RuleG (pt : Option Addr) (a b : List ByteArray) (w : World) (sa : AscB a) (sb : AscB b) (na : a.length ≤ 10000) (nb : b.length ≤ 10000)
    (RO : ∀ r W, Below w.heap.size w W → Calls Try.prog 13 #[.pointer pt, rv r] W fun e w' => e = .returned (.int .i64 (roleN a b r)) ∧ Below W.heap.size W w')
    (PR : ∀ W, Below w.heap.size w W → Calls Try.prog 16 #[.pointer pt] W fun e w' => ∃ q, e = .returned (.pointer (some ⟨q, 0, none⟩)) ∧ TabAt w' q a ∧ Below W.heap.size W w')
    (LK : ∀ W, Below w.heap.size w W → Calls Try.prog 18 #[.pointer pt] W fun e w' => ∃ q, e = .returned (.pointer (some ⟨q, 0, none⟩)) ∧ TabAt w' q b ∧ Below W.heap.size W w') (s : St) (hs : s.le 4294967) :
    Calls Try.prog 11 #[.pointer pt, sv s] w fun e w' => e = .returned (.tuple #[ruv (ruleN a b s).1, .bool (ruleN a b s).2]) ∧ Below w.heap.size w w' := by
  have SR := Lib.hid (fun W => syn_Right s W hs)
  have RO := Lib.hid RO
  have PR := Lib.hid PR
  have LK := Lib.hid LK
  have FA := Lib.hid (fun s q W (h : TabAt W q a) => tab_Find q a s W h sa (by omega))
  have FB := Lib.hid (fun s q W (h : TabAt W q b) => tab_Find q b s W h sb (by omega))
  clear sa sb na nb
  obtain ⟨k, ⟨h1, h2⟩, who, ⟨s1, s2⟩, ⟨s3, s4⟩, via⟩ := s
  have HT := Lib.hid (TwoAt.new' w #[.int .i64 k, .string h1, .string h2, .string who, .string s1, .string s2, .string s3, .string s4, .string via] #[.int .i64 0, .int .i64 0, .int .i64 0, .int .i64 0, .int .i64 0, .int .i64 0] 26 34)
  cases hr : rightS ⟨k, ⟨h1, h2⟩, who, ⟨s1, s2⟩, ⟨s3, s4⟩, via⟩ with
  | false =>
    have R := Lib.hid (ruleN_no (a := a) (b := b) hr)
    rw [hr] at SR
    clear hr
    go_enter Try.func11, Try.ntmps11
    go_wp2_with fail
    refine (SR.out _).mono ?_
    rintro e w1 ⟨rfl, hb⟩
    have HT := Lib.hid (HT.out.later hb)
    clear hb
    obtain ⟨cb, fb, zb⟩ := HT.out.b
    go_wp2
    refine bodyPost_ret (v := .tuple #[ruv noRu, .bool false]) (by simp [results, Try.results11, go_sem, noRu, cb]) rfl ⟨by rw [R.out], ?_⟩
    exact below_puts (by omega) [.int .i64 0, .int .i64 0, .int .i64 0, .int .i64 0, .int .i64 0, .int .i64 0] 0 w1 HT.out.low
  | true =>
  rw [hr] at SR
  have RR := Lib.hid (ruleN_ok (a := a) (b := b) hr)
  have RB := Lib.hid (ruleN_bad (a := a) (b := b) (s := ⟨k, ⟨h1, h2⟩, who, ⟨s1, s2⟩, ⟨s3, s4⟩, via⟩))
  have HR := Lib.hid hr
  clear hr
  go_enter Try.func11, Try.ntmps11
  go_wp2_with fail
  refine (SR.out _).mono ?_
  rintro e w1 ⟨rfl, hb⟩
  have HT := Lib.hid (HT.out.later hb)
  clear hb SR
  have RH := Lib.hid (fun W hb => RO.out ⟨h1, h2⟩ W hb)
  obtain ⟨rh, hrh⟩ : ∃ r, r = roleN a b ⟨h1, h2⟩ := ⟨_, rfl⟩
  rw [← hrh] at RH
  have HRH := Lib.hid hrh
  clear hrh
  go_upto_region 4 with fail
  go_cut [6] (fun s6 wx => ∃ b6 : Nat, s6 = .pointer (some ⟨b6, 0, none⟩) ∧ w.heap.size + 1 < b6 ∧ Hid (TwoAt w #[.int .i64 k, .string h1, .string h2, .string who, .string s1, .string s2, .string s3, .string s4, .string via] #[.int .i64 0, .int .i64 0, .int .i64 0, .int .i64 0, .int .i64 0, .int .i64 0] wx) ∧ Hid (Blk wx b6 #[.int .i64 k, .int .i64 rh, .int .i64 0, .int .i64 0, .int .i64 0, .int .i64 0]))
  case first =>
    have HT := HT.out
    obtain ⟨ca, fa, za⟩ := HT.a
    go_wp2_with fail
    clear ca fa za
    refine wp_region_held_drew (S := (fun W => ∀ o, W.cell? ⟨w.heap.size, o, none⟩ = (#[.int .i64 k, .string h1, .string h2, .string who, .string s1, .string s2, .string s3, .string s4, .string via] : Array Value)[o]?)) (by kernel_rfl) HT.drew.a.1 (fun hHeld => ?_)
    have HT := HT.drew
    obtain ⟨wk, hwk⟩ : ∃ W, W = w1.drew := ⟨_, rfl⟩
    rw [← hwk] at HT hHeld ⊢
    clear hwk
    (refine held_yes (v := ?_) 0 rfl (by kernel_rfl) (by kernel_rfl) (by kernel_rfl) (fun _ _ _ h => h) (by rfl) (by assumption) ?_ ?_; rotate_left; (focus ((intro w hSw); (try dsimp only at hSw); go_simp; (try with_reducible rfl))); (try simp only [Act.put, List.setIfInBounds_toArray, List.set_cons_zero, List.set_cons_succ])); (refine held_yes (v := ?_) 1 rfl (by kernel_rfl) (by kernel_rfl) (by kernel_rfl) (fun _ _ _ h => h) (by rfl) (by assumption) ?_ ?_; rotate_left; (focus ((intro w hSw); (try dsimp only at hSw); go_simp; (try with_reducible rfl))); (try simp only [Act.put, List.setIfInBounds_toArray, List.set_cons_zero, List.set_cons_succ])); (refine held_yes (v := ?_) 2 rfl (by kernel_rfl) (by kernel_rfl) (by kernel_rfl) (fun _ _ _ h => h) (by rfl) (by assumption) ?_ ?_; rotate_left; (focus ((intro w hSw); (try dsimp only at hSw); go_simp; (try with_reducible rfl))); (try simp only [Act.put, List.setIfInBounds_toArray, List.set_cons_zero, List.set_cons_succ])); (refine held_yes (v := ?_) 3 rfl (by kernel_rfl) (by kernel_rfl) (by kernel_rfl) (fun _ _ _ h => h) (by rfl) (by assumption) ?_ ?_; rotate_left; (focus ((intro w hSw); (try dsimp only at hSw); go_simp; (try with_reducible rfl))); (try simp only [Act.put, List.setIfInBounds_toArray, List.set_cons_zero, List.set_cons_succ])); (refine held_yes (v := ?_) 4 rfl (by kernel_rfl) (by kernel_rfl) (by kernel_rfl) (fun _ _ _ h => h) (by rfl) (by assumption) ?_ ?_; rotate_left; (focus ((intro w hSw); (try dsimp only at hSw); go_simp; (try with_reducible rfl))); (try simp only [Act.put, List.setIfInBounds_toArray, List.set_cons_zero, List.set_cons_succ]))
    refine wpAnyH_ready (rs := [5, 7]) (by kernel_rfl) (by simp) (AllReadyH.cons rfl (fun K hK => ?_) (AllReadyH.cons rfl (fun K hK => ?_) AllReadyH.nil))
    · go_simp
      go_at_call 13; refine (RH.out _ HT.low).mono ?_; rintro e wk1 ⟨rfl, hbq⟩
      have HT := HT.later hbq
      clear hbq
      (refine hK.out _ _ (HT.a.1) (fun hHeld => ?_); clear hK K; (try simp only [Act.put, List.setIfInBounds_toArray, List.set_cons_zero, List.set_cons_succ]))
      (refine held_yes (v := ?_) 6 rfl (by kernel_rfl) (by kernel_rfl) (by kernel_rfl) (fun _ _ _ h => h) (by rfl) (by assumption) ?_ ?_; rotate_left; (focus ((intro w hSw); (try dsimp only at hSw); go_simp; (try with_reducible rfl))); (try simp only [Act.put, List.setIfInBounds_toArray, List.set_cons_zero, List.set_cons_succ]))
      (refine held_call 7 rfl (by kernel_rfl) (fun K hK => ?_); go_simp)
      obtain ⟨b6, hb6⟩ : ∃ b, b = wk1.heap.size := ⟨_, rfl⟩
      obtain ⟨wk2, hwn⟩ : ∃ V, V = wk1.alloc (.cells #[.int .i64 0, .int .i64 0, .int .i64 0, .int .i64 0, .int .i64 0, .int .i64 0] 34) := ⟨_, rfl⟩
      rw [← hwn, ← hb6]
      have H6 : Blk wk2 b6 #[.int .i64 0, .int .i64 0, .int .i64 0, .int .i64 0, .int .i64 0, .int .i64 0] := by rw [hwn, hb6]; exact Blk.new _ _ _
      have lo6 : w.heap.size + 1 < b6 := by rw [hb6]; exact HT.b.2.2
      have HT : TwoAt w #[.int .i64 k, .string h1, .string h2, .string who, .string s1, .string s2, .string s3, .string s4, .string via] #[.int .i64 0, .int .i64 0, .int .i64 0, .int .i64 0, .int .i64 0, .int .i64 0] wk2 := by rw [hwn]; exact HT.alloc _
      clear hwn hb6
      (refine hK.out _ _ (HT.a.1) (fun hHeld => ?_); clear hK K; (try simp only [Act.put, List.setIfInBounds_toArray, List.set_cons_zero, List.set_cons_succ]))
      have Hc := H6
      obtain ⟨cs, fs, zs⟩ := Hc
      (refine held_call 8 rfl (by kernel_rfl) (fun K hK => ?_); go_simp)
      clear cs fs zs
      generalize hw : ((((((wk2.setCell ⟨b6, 0, none⟩ (.int .i64 k)).setCell ⟨b6, 1, none⟩ (.int .i64 rh)).setCell ⟨b6, 2, none⟩ (.int .i64 0)).setCell ⟨b6, 3, none⟩ (.int .i64 0)).setCell ⟨b6, 4, none⟩ (.int .i64 0)).setCell ⟨b6, 5, none⟩ (.int .i64 0)) = wn
      have H6 : Blk wn b6 #[.int .i64 k, .int .i64 rh, .int .i64 0, .int .i64 0, .int .i64 0, .int .i64 0] := by rw [← hw]; simpa using ((((((H6.put (o := 0) (v := .int .i64 k) (by simp)).put (o := 1) (v := .int .i64 rh) (by simp)).put (o := 2) (v := .int .i64 0) (by simp)).put (o := 3) (v := .int .i64 0) (by simp)).put (o := 4) (v := .int .i64 0) (by simp)).put (o := 5) (v := .int .i64 0) (by simp))
      have HT : TwoAt w #[.int .i64 k, .string h1, .string h2, .string who, .string s1, .string s2, .string s3, .string s4, .string via] #[.int .i64 0, .int .i64 0, .int .i64 0, .int .i64 0, .int .i64 0, .int .i64 0] wn := by
        rw [← hw]
        exact ⟨HT.a.puts_far (g := b6) (by omega) [.int .i64 k, .int .i64 rh, .int .i64 0, .int .i64 0, .int .i64 0, .int .i64 0] 0 wk2, HT.b.puts_far (g := b6) (by omega) [.int .i64 k, .int .i64 rh, .int .i64 0, .int .i64 0, .int .i64 0, .int .i64 0] 0 wk2, below_puts (by omega) [.int .i64 k, .int .i64 rh, .int .i64 0, .int .i64 0, .int .i64 0, .int .i64 0] 0 wk2 HT.low⟩
      clear hw
      (refine hK.out _ _ (HT.a.1) (fun hHeld => ?_); clear hK K; (try simp only [Act.put, List.setIfInBounds_toArray, List.set_cons_zero, List.set_cons_succ]))
      refine wpAnyH_done (by kernel_rfl) ?_ _
      go_wp2_with fail
      go_meet
      exact ⟨b6, rfl, lo6, Lib.hid HT, Lib.hid H6⟩
    · go_simp
      obtain ⟨b6, hb6⟩ : ∃ b, b = wk.heap.size := ⟨_, rfl⟩
      obtain ⟨wk1, hwn⟩ : ∃ V, V = wk.alloc (.cells #[.int .i64 0, .int .i64 0, .int .i64 0, .int .i64 0, .int .i64 0, .int .i64 0] 34) := ⟨_, rfl⟩
      rw [← hwn, ← hb6]
      have H6 : Blk wk1 b6 #[.int .i64 0, .int .i64 0, .int .i64 0, .int .i64 0, .int .i64 0, .int .i64 0] := by rw [hwn, hb6]; exact Blk.new _ _ _
      have lo6 : w.heap.size + 1 < b6 := by rw [hb6]; exact HT.b.2.2
      have HT : TwoAt w #[.int .i64 k, .string h1, .string h2, .string who, .string s1, .string s2, .string s3, .string s4, .string via] #[.int .i64 0, .int .i64 0, .int .i64 0, .int .i64 0, .int .i64 0, .int .i64 0] wk1 := by rw [hwn]; exact HT.alloc _
      clear hwn hb6
      (refine hK.out _ _ (HT.a.1) (fun hHeld => ?_); clear hK K; (try simp only [Act.put, List.setIfInBounds_toArray, List.set_cons_zero, List.set_cons_succ]))
      (refine held_call 5 rfl (by kernel_rfl) (fun K hK => ?_); go_simp)
      go_at_call 13; refine (RH.out _ HT.low).mono ?_; rintro e wk2 ⟨rfl, hbq⟩
      have H6 := H6.below hbq
      have HT := HT.later hbq
      clear hbq
      (refine hK.out _ _ (HT.a.1) (fun hHeld => ?_); clear hK K; (try simp only [Act.put, List.setIfInBounds_toArray, List.set_cons_zero, List.set_cons_succ]))
      (refine held_yes (v := ?_) 6 rfl (by kernel_rfl) (by kernel_rfl) (by kernel_rfl) (fun _ _ _ h => h) (by rfl) (by assumption) ?_ ?_; rotate_left; (focus ((intro w hSw); (try dsimp only at hSw); go_simp; (try with_reducible rfl))); (try simp only [Act.put, List.setIfInBounds_toArray, List.set_cons_zero, List.set_cons_succ]))
      have Hc := H6
      obtain ⟨cs, fs, zs⟩ := Hc
      (refine held_call 8 rfl (by kernel_rfl) (fun K hK => ?_); go_simp)
      clear cs fs zs
      generalize hw : ((((((wk2.setCell ⟨b6, 0, none⟩ (.int .i64 k)).setCell ⟨b6, 1, none⟩ (.int .i64 rh)).setCell ⟨b6, 2, none⟩ (.int .i64 0)).setCell ⟨b6, 3, none⟩ (.int .i64 0)).setCell ⟨b6, 4, none⟩ (.int .i64 0)).setCell ⟨b6, 5, none⟩ (.int .i64 0)) = wn
      have H6 : Blk wn b6 #[.int .i64 k, .int .i64 rh, .int .i64 0, .int .i64 0, .int .i64 0, .int .i64 0] := by rw [← hw]; simpa using ((((((H6.put (o := 0) (v := .int .i64 k) (by simp)).put (o := 1) (v := .int .i64 rh) (by simp)).put (o := 2) (v := .int .i64 0) (by simp)).put (o := 3) (v := .int .i64 0) (by simp)).put (o := 4) (v := .int .i64 0) (by simp)).put (o := 5) (v := .int .i64 0) (by simp))
      have HT : TwoAt w #[.int .i64 k, .string h1, .string h2, .string who, .string s1, .string s2, .string s3, .string s4, .string via] #[.int .i64 0, .int .i64 0, .int .i64 0, .int .i64 0, .int .i64 0, .int .i64 0] wn := by
        rw [← hw]
        exact ⟨HT.a.puts_far (g := b6) (by omega) [.int .i64 k, .int .i64 rh, .int .i64 0, .int .i64 0, .int .i64 0, .int .i64 0] 0 wk2, HT.b.puts_far (g := b6) (by omega) [.int .i64 k, .int .i64 rh, .int .i64 0, .int .i64 0, .int .i64 0, .int .i64 0] 0 wk2, below_puts (by omega) [.int .i64 k, .int .i64 rh, .int .i64 0, .int .i64 0, .int .i64 0, .int .i64 0] 0 wk2 HT.low⟩
      clear hw
      (refine hK.out _ _ (HT.a.1) (fun hHeld => ?_); clear hK K; (try simp only [Act.put, List.setIfInBounds_toArray, List.set_cons_zero, List.set_cons_succ]))
      refine wpAnyH_done (by kernel_rfl) ?_ _
      go_wp2_with fail
      go_meet
      exact ⟨b6, rfl, lo6, Lib.hid HT, Lib.hid H6⟩
  case rest =>
    clear HT RH
    obtain ⟨b6, rfl, lo6, HT, H6⟩ := hcut
    rename World => wc
    have HT := HT.out
    have H6 := H6.out
    by_cases hk : k = 1
    · skip
      subst hk
      obtain ⟨ca, fa, za⟩ := HT.a
      go_wp2_with fail
      obtain ⟨pw, hpw⟩ : ∃ x, x = placeB a who := ⟨_, rfl⟩
      have FW := Lib.hid (fun q W hb => FA.out who q W hb)
      rw [← hpw] at FW
      have RV : ruleR a b ⟨1, ⟨h1, h2⟩, who, ⟨s1, s2⟩, ⟨s3, s4⟩, via⟩ = ⟨1, rh, pw, 0, 0, 0⟩ := by unfold ruleR; simp [HRH.out, hpw]
      clear ca fa za hpw
      refine wp_region_held_drew (S := (fun W => ∀ o, W.cell? ⟨w.heap.size, o, none⟩ = (#[.int .i64 1, .string h1, .string h2, .string who, .string s1, .string s2, .string s3, .string s4, .string via] : Array Value)[o]?)) (by kernel_rfl) HT.drew.a.1 (fun hHeld => ?_)
      have HT := HT.drew
      have H6 := H6.below (below_drew (Below.refl _ _))
      obtain ⟨wk, hwk⟩ : ∃ W, W = wc.drew := ⟨_, rfl⟩
      rw [← hwk] at HT H6 hHeld ⊢
      clear hwk
      (refine held_yes (v := ?_) 0 rfl (by kernel_rfl) (by kernel_rfl) (by kernel_rfl) (fun _ _ _ h => h) (by rfl) (by assumption) ?_ ?_; rotate_left; (focus ((intro w hSw); (try dsimp only at hSw); go_simp; (try with_reducible rfl))); (try simp only [Act.put, List.setIfInBounds_toArray, List.set_cons_zero, List.set_cons_succ])); (refine held_yes (v := ?_) 2 rfl (by kernel_rfl) (by kernel_rfl) (by kernel_rfl) (fun _ _ _ h => h) (by rfl) (by assumption) ?_ ?_; rotate_left; (focus ((intro w hSw); (try dsimp only at hSw); go_simp; (try with_reducible rfl))); (try simp only [Act.put, List.setIfInBounds_toArray, List.set_cons_zero, List.set_cons_succ])); (refine held_yes (v := ?_) 3 rfl (by kernel_rfl) (by kernel_rfl) (by kernel_rfl) (fun _ _ _ h => h) (by rfl) (by assumption) ?_ ?_; rotate_left; (focus ((intro w hSw); (try dsimp only at hSw); go_simp; (try with_reducible rfl))); (try simp only [Act.put, List.setIfInBounds_toArray, List.set_cons_zero, List.set_cons_succ]))
      (refine held_call 1 rfl (by kernel_rfl) (fun K hK => ?_); go_simp)
      go_at_call 16; refine (PR.out _ HT.low).mono ?_; rintro e wq ⟨q, rfl, hta, hbq⟩; have H6 := H6.below hbq; have HT := HT.later hbq; clear hbq
      (refine hK.out _ _ (HT.a.1) (fun hHeld => ?_); clear hK K; (try simp only [Act.put, List.setIfInBounds_toArray, List.set_cons_zero, List.set_cons_succ]))
      (refine held_call 4 rfl (by kernel_rfl) (fun K hK => ?_); go_simp)
      go_at_call 36; refine (FW.out _ _ hta).mono ?_; rintro e wq2 ⟨rfl, rfl⟩; clear hta
      (refine hK.out _ _ (HT.a.1) (fun hHeld => ?_); clear hK K; (try simp only [Act.put, List.setIfInBounds_toArray, List.set_cons_zero, List.set_cons_succ]))
      (refine held_yes (v := ?_) 5 rfl (by kernel_rfl) (by kernel_rfl) (by kernel_rfl) (fun _ _ _ h => h) (by rfl) (by assumption) ?_ ?_; rotate_left; (focus ((intro w hSw); (try dsimp only at hSw); go_simp; (try with_reducible rfl))); (try simp only [Act.put, List.setIfInBounds_toArray, List.set_cons_zero, List.set_cons_succ]))
      have Hc := H6
      obtain ⟨cs, fs, zs⟩ := Hc
      (refine held_call 6 rfl (by kernel_rfl) (fun K hK => ?_); go_simp)
      clear cs fs zs
      generalize hw : (wq2.setCell ⟨b6, 2, none⟩ (.int .i64 pw)) = wn
      have H6 : Blk wn b6 #[.int .i64 1, .int .i64 rh, .int .i64 pw, .int .i64 0, .int .i64 0, .int .i64 0] := by rw [← hw]; simpa using (H6.put (o := 2) (v := .int .i64 pw) (by simp))
      have HT : TwoAt w #[.int .i64 1, .string h1, .string h2, .string who, .string s1, .string s2, .string s3, .string s4, .string via] #[.int .i64 0, .int .i64 0, .int .i64 0, .int .i64 0, .int .i64 0, .int .i64 0] wn := by rw [← hw]; exact ⟨(HT.a.far (by omega)), (HT.b.far (by omega)), (below_put HT.low (by omega))⟩
      clear hw
      (refine hK.out _ _ (HT.a.1) (fun hHeld => ?_); clear hK K; (try simp only [Act.put, List.setIfInBounds_toArray, List.set_cons_zero, List.set_cons_succ]))
      refine wpAnyH_done (by kernel_rfl) ?_ _
      have HT := Lib.hid HT
      obtain ⟨cs, fs, zs⟩ := H6
      obtain ⟨mn, hmn, hmd0⟩ := run_min5 (P := Try.prog) #[3, 3, 3, 3, 3] 3 rh pw 0 0 0
      have hmd : decide (mn < 0) = !ruleOk ⟨1, rh, pw, 0, 0, 0⟩ := hmd0
      clear hmd0
      cases hok : ruleOk ⟨1, rh, pw, 0, 0, 0⟩ with
      | false =>
        have R := Lib.hid (RB.out (by rw [RV]; exact hok))
        have d : decide (mn < 0) = true := by rw [hmd, hok]; rfl
        obtain ⟨cb, fb, zb⟩ := HT.out.b
        clear hmd hok RV
        go_wp2
        refine bodyPost_ret (v := .tuple #[ruv noRu, .bool false]) (by simp [results, Try.results11, go_sem, noRu, cb]) rfl ⟨by rw [R.out], ?_⟩
        exact below_puts (by omega) [.int .i64 0, .int .i64 0, .int .i64 0, .int .i64 0, .int .i64 0, .int .i64 0] 0 wn HT.out.low
      | true =>
        have R := Lib.hid (RR.out (by rw [RV]; exact hok))
        have d : decide (mn < 0) = false := by rw [hmd, hok]; rfl
        have RV := Lib.hid RV
        obtain ⟨cb, fb, zb⟩ := HT.out.b
        clear hmd hok
        go_wp2
        refine bodyPost_ret (v := .tuple #[ruv ⟨1, rh, pw, 0, 0, 0⟩, .bool true]) (by simp [results, Try.results11, go_sem, cb]) rfl ⟨by rw [R.out, RV.out], ?_⟩
        exact below_puts (by omega) [.int .i64 1, .int .i64 rh, .int .i64 pw, .int .i64 0, .int .i64 0, .int .i64 0] 0 wn HT.out.low
    have n1 := hk
    clear hk
    by_cases hk : k = 2
    · skip
      subst hk
      obtain ⟨ca, fa, za⟩ := HT.a
      go_wp2_with fail
      obtain ⟨ra, hra⟩ : ∃ x, x = roleN a b ⟨s1, s2⟩ := ⟨_, rfl⟩
      have RA := Lib.hid (fun W hb => RO.out ⟨s1, s2⟩ W hb)
      rw [← hra] at RA
      have RV : ruleR a b ⟨2, ⟨h1, h2⟩, who, ⟨s1, s2⟩, ⟨s3, s4⟩, via⟩ = ⟨2, rh, 0, ra, 0, 0⟩ := by unfold ruleR; simp [HRH.out, hra]
      clear hra
      refine (RA.out _ HT.low).mono ?_
      rintro e wq2 ⟨rfl, hb⟩
      have HT := HT.later hb
      have H6 := H6.below hb
      clear hb ca fa za
      have Hc := H6
      obtain ⟨cs, fs, zs⟩ := Hc
      go_upto_region 13 with fail
      clear cs fs zs
      generalize hw : (wq2.setCell ⟨b6, 3, none⟩ (.int .i64 ra)) = wn
      have H6 : Blk wn b6 #[.int .i64 2, .int .i64 rh, .int .i64 0, .int .i64 ra, .int .i64 0, .int .i64 0] := by rw [← hw]; simpa using (H6.put (o := 3) (v := .int .i64 ra) (by simp))
      have HT : TwoAt w #[.int .i64 2, .string h1, .string h2, .string who, .string s1, .string s2, .string s3, .string s4, .string via] #[.int .i64 0, .int .i64 0, .int .i64 0, .int .i64 0, .int .i64 0, .int .i64 0] wn := by rw [← hw]; exact ⟨(HT.a.far (by omega)), (HT.b.far (by omega)), (below_put HT.low (by omega))⟩
      clear hw
      have HT := Lib.hid HT
      obtain ⟨cs, fs, zs⟩ := H6
      obtain ⟨mn, hmn, hmd0⟩ := run_min5 (P := Try.prog) #[3, 3, 3, 3, 3] 3 rh 0 ra 0 0
      have hmd : decide (mn < 0) = !ruleOk ⟨2, rh, 0, ra, 0, 0⟩ := hmd0
      clear hmd0
      cases hok : ruleOk ⟨2, rh, 0, ra, 0, 0⟩ with
      | false =>
        have R := Lib.hid (RB.out (by rw [RV]; exact hok))
        have d : decide (mn < 0) = true := by rw [hmd, hok]; rfl
        obtain ⟨cb, fb, zb⟩ := HT.out.b
        clear hmd hok RV
        go_wp2
        refine bodyPost_ret (v := .tuple #[ruv noRu, .bool false]) (by simp [results, Try.results11, go_sem, noRu, cb]) rfl ⟨by rw [R.out], ?_⟩
        exact below_puts (by omega) [.int .i64 0, .int .i64 0, .int .i64 0, .int .i64 0, .int .i64 0, .int .i64 0] 0 wn HT.out.low
      | true =>
        have R := Lib.hid (RR.out (by rw [RV]; exact hok))
        have d : decide (mn < 0) = false := by rw [hmd, hok]; rfl
        have RV := Lib.hid RV
        obtain ⟨cb, fb, zb⟩ := HT.out.b
        clear hmd hok
        go_wp2
        refine bodyPost_ret (v := .tuple #[ruv ⟨2, rh, 0, ra, 0, 0⟩, .bool true]) (by simp [results, Try.results11, go_sem, cb]) rfl ⟨by rw [R.out, RV.out], ?_⟩
        exact below_puts (by omega) [.int .i64 2, .int .i64 rh, .int .i64 0, .int .i64 ra, .int .i64 0, .int .i64 0] 0 wn HT.out.low
    have n2 := hk
    clear hk
    by_cases hk : k = 3
    · skip
      subst hk
      obtain ⟨ca, fa, za⟩ := HT.a
      go_wp2_with fail
      obtain ⟨ra, hra⟩ : ∃ x, x = roleN a b ⟨s1, s2⟩ := ⟨_, rfl⟩
      have RA := Lib.hid (fun W hb => RO.out ⟨s1, s2⟩ W hb)
      rw [← hra] at RA
      obtain ⟨pv, hpv⟩ : ∃ x, x = placeB b via := ⟨_, rfl⟩
      have FV := Lib.hid (fun q W hb => FB.out via q W hb)
      rw [← hpv] at FV
      have RV : ruleR a b ⟨3, ⟨h1, h2⟩, who, ⟨s1, s2⟩, ⟨s3, s4⟩, via⟩ = ⟨3, rh, 0, ra, 0, pv⟩ := by unfold ruleR; simp [HRH.out, hra, hpv]
      clear ca fa za hpv hra
      refine wp_region_held_drew (S := (fun W => ∀ o, W.cell? ⟨w.heap.size, o, none⟩ = (#[.int .i64 3, .string h1, .string h2, .string who, .string s1, .string s2, .string s3, .string s4, .string via] : Array Value)[o]?)) (by kernel_rfl) HT.drew.a.1 (fun hHeld => ?_)
      have HT := HT.drew
      have H6 := H6.below (below_drew (Below.refl _ _))
      obtain ⟨wk, hwk⟩ : ∃ W, W = wc.drew := ⟨_, rfl⟩
      rw [← hwk] at HT H6 hHeld ⊢
      clear hwk
      (refine held_yes (v := ?_) 0 rfl (by kernel_rfl) (by kernel_rfl) (by kernel_rfl) (fun _ _ _ h => h) (by rfl) (by assumption) ?_ ?_; rotate_left; (focus ((intro w hSw); (try dsimp only at hSw); go_simp; (try with_reducible rfl))); (try simp only [Act.put, List.setIfInBounds_toArray, List.set_cons_zero, List.set_cons_succ])); (refine held_yes (v := ?_) 1 rfl (by kernel_rfl) (by kernel_rfl) (by kernel_rfl) (fun _ _ _ h => h) (by rfl) (by assumption) ?_ ?_; rotate_left; (focus ((intro w hSw); (try dsimp only at hSw); go_simp; (try with_reducible rfl))); (try simp only [Act.put, List.setIfInBounds_toArray, List.set_cons_zero, List.set_cons_succ])); (refine held_yes (v := ?_) 2 rfl (by kernel_rfl) (by kernel_rfl) (by kernel_rfl) (fun _ _ _ h => h) (by rfl) (by assumption) ?_ ?_; rotate_left; (focus ((intro w hSw); (try dsimp only at hSw); go_simp; (try with_reducible rfl))); (try simp only [Act.put, List.setIfInBounds_toArray, List.set_cons_zero, List.set_cons_succ])); (refine held_yes (v := ?_) 4 rfl (by kernel_rfl) (by kernel_rfl) (by kernel_rfl) (fun _ _ _ h => h) (by rfl) (by assumption) ?_ ?_; rotate_left; (focus ((intro w hSw); (try dsimp only at hSw); go_simp; (try with_reducible rfl))); (try simp only [Act.put, List.setIfInBounds_toArray, List.set_cons_zero, List.set_cons_succ])); (refine held_yes (v := ?_) 6 rfl (by kernel_rfl) (by kernel_rfl) (by kernel_rfl) (fun _ _ _ h => h) (by rfl) (by assumption) ?_ ?_; rotate_left; (focus ((intro w hSw); (try dsimp only at hSw); go_simp; (try with_reducible rfl))); (try simp only [Act.put, List.setIfInBounds_toArray, List.set_cons_zero, List.set_cons_succ])); (refine held_yes (v := ?_) 7 rfl (by kernel_rfl) (by kernel_rfl) (by kernel_rfl) (fun _ _ _ h => h) (by rfl) (by assumption) ?_ ?_; rotate_left; (focus ((intro w hSw); (try dsimp only at hSw); go_simp; (try with_reducible rfl))); (try simp only [Act.put, List.setIfInBounds_toArray, List.set_cons_zero, List.set_cons_succ]))
      (refine held_call 3 rfl (by kernel_rfl) (fun K hK => ?_); go_simp)
      go_at_call 13; refine (RA.out _ HT.low).mono ?_; rintro e wq ⟨rfl, hbq⟩; have H6 := H6.below hbq; have HT := HT.later hbq; clear hbq
      (refine hK.out _ _ (HT.a.1) (fun hHeld => ?_); clear hK K; (try simp only [Act.put, List.setIfInBounds_toArray, List.set_cons_zero, List.set_cons_succ]))
      (refine held_yes (v := ?_) 9 rfl (by kernel_rfl) (by kernel_rfl) (by kernel_rfl) (fun _ _ _ h => h) (by rfl) (by assumption) ?_ ?_; rotate_left; (focus ((intro w hSw); (try dsimp only at hSw); go_simp; (try with_reducible rfl))); (try simp only [Act.put, List.setIfInBounds_toArray, List.set_cons_zero, List.set_cons_succ]))
      (refine held_call 5 rfl (by kernel_rfl) (fun K hK => ?_); go_simp)
      go_at_call 18; refine (LK.out _ HT.low).mono ?_; rintro e wq2 ⟨q, rfl, htb, hbq⟩; have H6 := H6.below hbq; have HT := HT.later hbq; clear hbq
      (refine hK.out _ _ (HT.a.1) (fun hHeld => ?_); clear hK K; (try simp only [Act.put, List.setIfInBounds_toArray, List.set_cons_zero, List.set_cons_succ]))
      (refine held_call 8 rfl (by kernel_rfl) (fun K hK => ?_); go_simp)
      go_at_call 36; refine (FV.out _ _ htb).mono ?_; rintro e wq3 ⟨rfl, rfl⟩; clear htb
      (refine hK.out _ _ (HT.a.1) (fun hHeld => ?_); clear hK K; (try simp only [Act.put, List.setIfInBounds_toArray, List.set_cons_zero, List.set_cons_succ]))
      have Hc := H6
      obtain ⟨cs, fs, zs⟩ := Hc
      (refine held_call 10 rfl (by kernel_rfl) (fun K hK => ?_); go_simp)
      clear cs fs zs
      generalize hw : wq3.setCell ⟨b6, 3, none⟩ (.int .i64 ra) = wp
      have H6 : Blk wp b6 #[.int .i64 3, .int .i64 rh, .int .i64 0, .int .i64 ra, .int .i64 0, .int .i64 0] := by rw [← hw]; simpa using H6.put (o := 3) (v := .int .i64 ra) (by simp)
      have HT : TwoAt w #[.int .i64 3, .string h1, .string h2, .string who, .string s1, .string s2, .string s3, .string s4, .string via] #[.int .i64 0, .int .i64 0, .int .i64 0, .int .i64 0, .int .i64 0, .int .i64 0] wp := by rw [← hw]; exact ⟨HT.a.far (by omega), HT.b.far (by omega), below_put HT.low (by omega)⟩
      clear hw
      (refine hK.out _ _ (HT.a.1) (fun hHeld => ?_); clear hK K; (try simp only [Act.put, List.setIfInBounds_toArray, List.set_cons_zero, List.set_cons_succ]))
      (refine held_yes (v := ?_) 11 rfl (by kernel_rfl) (by kernel_rfl) (by kernel_rfl) (fun _ _ _ h => h) (by rfl) (by assumption) ?_ ?_; rotate_left; (focus ((intro w hSw); (try dsimp only at hSw); go_simp; (try with_reducible rfl))); (try simp only [Act.put, List.setIfInBounds_toArray, List.set_cons_zero, List.set_cons_succ]))
      have Hc := H6
      obtain ⟨cs, fs, zs⟩ := Hc
      (refine held_call 12 rfl (by kernel_rfl) (fun K hK => ?_); go_simp)
      clear cs fs zs
      generalize hw : (wp.setCell ⟨b6, 5, none⟩ (.int .i64 pv)) = wn
      have H6 : Blk wn b6 #[.int .i64 3, .int .i64 rh, .int .i64 0, .int .i64 ra, .int .i64 0, .int .i64 pv] := by rw [← hw]; simpa using (H6.put (o := 5) (v := .int .i64 pv) (by simp))
      have HT : TwoAt w #[.int .i64 3, .string h1, .string h2, .string who, .string s1, .string s2, .string s3, .string s4, .string via] #[.int .i64 0, .int .i64 0, .int .i64 0, .int .i64 0, .int .i64 0, .int .i64 0] wn := by rw [← hw]; exact ⟨(HT.a.far (by omega)), (HT.b.far (by omega)), (below_put HT.low (by omega))⟩
      clear hw
      (refine hK.out _ _ (HT.a.1) (fun hHeld => ?_); clear hK K; (try simp only [Act.put, List.setIfInBounds_toArray, List.set_cons_zero, List.set_cons_succ]))
      refine wpAnyH_done (by kernel_rfl) ?_ _
      have HT := Lib.hid HT
      obtain ⟨cs, fs, zs⟩ := H6
      obtain ⟨mn, hmn, hmd0⟩ := run_min5 (P := Try.prog) #[3, 3, 3, 3, 3] 3 rh 0 ra 0 pv
      have hmd : decide (mn < 0) = !ruleOk ⟨3, rh, 0, ra, 0, pv⟩ := hmd0
      clear hmd0
      cases hok : ruleOk ⟨3, rh, 0, ra, 0, pv⟩ with
      | false =>
        have R := Lib.hid (RB.out (by rw [RV]; exact hok))
        have d : decide (mn < 0) = true := by rw [hmd, hok]; rfl
        obtain ⟨cb, fb, zb⟩ := HT.out.b
        clear hmd hok RV
        go_wp2
        refine bodyPost_ret (v := .tuple #[ruv noRu, .bool false]) (by simp [results, Try.results11, go_sem, noRu, cb]) rfl ⟨by rw [R.out], ?_⟩
        exact below_puts (by omega) [.int .i64 0, .int .i64 0, .int .i64 0, .int .i64 0, .int .i64 0, .int .i64 0] 0 wn HT.out.low
      | true =>
        have R := Lib.hid (RR.out (by rw [RV]; exact hok))
        have d : decide (mn < 0) = false := by rw [hmd, hok]; rfl
        have RV := Lib.hid RV
        obtain ⟨cb, fb, zb⟩ := HT.out.b
        clear hmd hok
        go_wp2
        refine bodyPost_ret (v := .tuple #[ruv ⟨3, rh, 0, ra, 0, pv⟩, .bool true]) (by simp [results, Try.results11, go_sem, cb]) rfl ⟨by rw [R.out, RV.out], ?_⟩
        exact below_puts (by omega) [.int .i64 3, .int .i64 rh, .int .i64 0, .int .i64 ra, .int .i64 0, .int .i64 pv] 0 wn HT.out.low
    have n3 := hk
    clear hk
    by_cases hk : k = 4
    · skip
      subst hk
      obtain ⟨ca, fa, za⟩ := HT.a
      go_wp2_with fail
      obtain ⟨ra, hra⟩ : ∃ x, x = roleN a b ⟨s1, s2⟩ := ⟨_, rfl⟩
      have RA := Lib.hid (fun W hb => RO.out ⟨s1, s2⟩ W hb)
      rw [← hra] at RA
      obtain ⟨rb, hrb⟩ : ∃ x, x = roleN a b ⟨s3, s4⟩ := ⟨_, rfl⟩
      have RB2 := Lib.hid (fun W hb => RO.out ⟨s3, s4⟩ W hb)
      rw [← hrb] at RB2
      have RV : ruleR a b ⟨4, ⟨h1, h2⟩, who, ⟨s1, s2⟩, ⟨s3, s4⟩, via⟩ = ⟨4, rh, 0, ra, rb, 0⟩ := by unfold ruleR; simp [HRH.out, hra, hrb]
      clear hra hrb
      refine (RB2.out _ HT.low).mono ?_
      rintro e wq ⟨rfl, hb⟩
      have HT := HT.later hb
      have H6 := H6.below hb
      clear hb ca fa za
      obtain ⟨ca, fa, za⟩ := HT.a
      have Hc := H6
      obtain ⟨cs, fs, zs⟩ := Hc
      go_upto_region 11 with fail
      clear cs fs zs ca fa za
      generalize hw : wq.setCell ⟨b6, 4, none⟩ (.int .i64 rb) = wp
      have H6 : Blk wp b6 #[.int .i64 4, .int .i64 rh, .int .i64 0, .int .i64 0, .int .i64 rb, .int .i64 0] := by rw [← hw]; simpa using H6.put (o := 4) (v := .int .i64 rb) (by simp)
      have HT : TwoAt w #[.int .i64 4, .string h1, .string h2, .string who, .string s1, .string s2, .string s3, .string s4, .string via] #[.int .i64 0, .int .i64 0, .int .i64 0, .int .i64 0, .int .i64 0, .int .i64 0] wp := by rw [← hw]; exact ⟨HT.a.far (by omega), HT.b.far (by omega), below_put HT.low (by omega)⟩
      clear hw
      obtain ⟨ca, fa, za⟩ := HT.a
      go_wp2_with fail
      refine (RA.out _ HT.low).mono ?_
      rintro e wq2 ⟨rfl, hb⟩
      have HT := HT.later hb
      have H6 := H6.below hb
      clear hb ca fa za
      have Hc := H6
      obtain ⟨cs, fs, zs⟩ := Hc
      go_upto_region 13 with fail
      clear cs fs zs
      generalize hw : (wq2.setCell ⟨b6, 3, none⟩ (.int .i64 ra)) = wn
      have H6 : Blk wn b6 #[.int .i64 4, .int .i64 rh, .int .i64 0, .int .i64 ra, .int .i64 rb, .int .i64 0] := by rw [← hw]; simpa using (H6.put (o := 3) (v := .int .i64 ra) (by simp))
      have HT : TwoAt w #[.int .i64 4, .string h1, .string h2, .string who, .string s1, .string s2, .string s3, .string s4, .string via] #[.int .i64 0, .int .i64 0, .int .i64 0, .int .i64 0, .int .i64 0, .int .i64 0] wn := by rw [← hw]; exact ⟨(HT.a.far (by omega)), (HT.b.far (by omega)), (below_put HT.low (by omega))⟩
      clear hw
      have HT := Lib.hid HT
      obtain ⟨cs, fs, zs⟩ := H6
      obtain ⟨mn, hmn, hmd0⟩ := run_min5 (P := Try.prog) #[3, 3, 3, 3, 3] 3 rh 0 ra rb 0
      have hmd : decide (mn < 0) = !ruleOk ⟨4, rh, 0, ra, rb, 0⟩ := hmd0
      clear hmd0
      cases hok : ruleOk ⟨4, rh, 0, ra, rb, 0⟩ with
      | false =>
        have R := Lib.hid (RB.out (by rw [RV]; exact hok))
        have d : decide (mn < 0) = true := by rw [hmd, hok]; rfl
        obtain ⟨cb, fb, zb⟩ := HT.out.b
        clear hmd hok RV
        go_wp2
        refine bodyPost_ret (v := .tuple #[ruv noRu, .bool false]) (by simp [results, Try.results11, go_sem, noRu, cb]) rfl ⟨by rw [R.out], ?_⟩
        exact below_puts (by omega) [.int .i64 0, .int .i64 0, .int .i64 0, .int .i64 0, .int .i64 0, .int .i64 0] 0 wn HT.out.low
      | true =>
        have R := Lib.hid (RR.out (by rw [RV]; exact hok))
        have d : decide (mn < 0) = false := by rw [hmd, hok]; rfl
        have RV := Lib.hid RV
        obtain ⟨cb, fb, zb⟩ := HT.out.b
        clear hmd hok
        go_wp2
        refine bodyPost_ret (v := .tuple #[ruv ⟨4, rh, 0, ra, rb, 0⟩, .bool true]) (by simp [results, Try.results11, go_sem, cb]) rfl ⟨by rw [R.out, RV.out], ?_⟩
        exact below_puts (by omega) [.int .i64 4, .int .i64 rh, .int .i64 0, .int .i64 ra, .int .i64 rb, .int .i64 0] 0 wn HT.out.low
    have hr := HR.out
    rw [rightS0 k _ _ _ _ _ n1 n2 n3 hk] at hr
    cases hr
theorem table_Rule {t ba bb : Nat} {a b : List ByteArray} {w : World} (h : TblAt w t ba bb a b) (s : St) (hs : s.le 4294967) :
    Calls Try.prog 11 #[.pointer (some ⟨t, 0, none⟩), sv s] w fun e w' => e = .returned (.tuple #[ruv (ruleN a b s).1, .bool (ruleN a b s).2]) ∧ Below w.heap.size w w' :=
  table_RuleG (some ⟨t, 0, none⟩) a b w h.sa h.sb h.na h.nb (fun r _ hb => table_Role (h.below hb) r)
    (fun W hb => (table_Prins (h.below hb)).mono (fun _ _ ⟨h1, h2⟩ => ⟨ba, h1, by rw [h2]; exact h.ta.below hb, by rw [h2]; exact Below.refl _ _⟩))
    (fun W hb => (table_Links (h.below hb)).mono (fun _ _ ⟨h1, h2⟩ => ⟨bb, h1, by rw [h2]; exact h.tb.below hb, by rw [h2]; exact Below.refl _ _⟩)) s hs
end Go.Proofs.Ythickpocfplcoaa
namespace Go.Proofs.Ythickpocfplcoaa
open Go.RowKit Go.Shelf

def eqRu (x y : Ru) : Bool := decide (x = y)
set_option maxRecDepth 100000 in
set_option maxHeartbeats 4000000 in
theorem rule_equalIn (d : Nat) (k h u a b v k' h' u' a' b' v' : Int) (w : World) : (Op.equalIn (d + 2) 34 (.agg #[.int .i64 k, .int .i64 h, .int .i64 u, .int .i64 a, .int .i64 b, .int .i64 v]) (.agg #[.int .i64 k', .int .i64 h', .int .i64 u', .int .i64 a', .int .i64 b', .int .i64 v'])).run Try.prog w = .ok (eqRu ⟨k, h, u, a, b, v⟩ ⟨k', h', u', a', b', v'⟩) w := by
  have hS : Try.prog.underlying 34 = some (.struct (Try.prog.fieldsOf 34)) := by kernel_rfl
  have hp : Try.prog.stoodInHeld 34 = false := by kernel_rfl
  rw [run_equalIn_agg w (d + 1) 34 _ _ hS hp]
  simp only [Program.fieldsOf, Try.underlying34]
  go_simp
  simp only [eqRu, Ru.mk.injEq]
  by_cases e1 : k = k' <;> by_cases e2 : h = h' <;> by_cases e3 : u = u' <;> by_cases e4 : a = a' <;> by_cases e5 : b = b' <;> by_cases e6 : v = v' <;> simp [e1, e2, e3, e4, e5, e6]
theorem rule_eql (k h u a b v k' h' u' a' b' v' : Int) (w : World) : (binOp .eql 34 (.agg #[.int .i64 k, .int .i64 h, .int .i64 u, .int .i64 a, .int .i64 b, .int .i64 v]) (.agg #[.int .i64 k', .int .i64 h', .int .i64 u', .int .i64 a', .int .i64 b', .int .i64 v'])).run Try.prog w = .ok (.bool (eqRu ⟨k, h, u, a, b, v⟩ ⟨k', h', u', a', b', v'⟩)) w := by
  rw [run_eql_struct, show (10000 : Nat) = 9998 + 2 from rfl, rule_equalIn 9998]
  rfl
theorem rule_neq (k h u a b v k' h' u' a' b' v' : Int) (w : World) : (binOp .neq 34 (.agg #[.int .i64 k, .int .i64 h, .int .i64 u, .int .i64 a, .int .i64 b, .int .i64 v]) (.agg #[.int .i64 k', .int .i64 h', .int .i64 u', .int .i64 a', .int .i64 b', .int .i64 v'])).run Try.prog w = .ok (.bool (!eqRu ⟨k, h, u, a, b, v⟩ ⟨k', h', u', a', b', v'⟩)) w := by
  rw [run_neq_struct, show (10000 : Nat) = 9998 + 2 from rfl, rule_equalIn 9998]
  rfl
theorem eqRu_self (r : Ru) : eqRu r r = true := decide_eq_true rfl
theorem eqRl_self (r : Rl) : eqRl r r = true := decide_eq_true rfl
theorem roleAt_ij {a b : List ByteArray} {i j : Nat} (hi : i < a.length) (hj : j < b.length) : roleAt a b ((i : Int) * (b.length : Int) + (j : Int)) = ⟨a[i], b[j]⟩ := by
  have h : i * b.length + j < a.length * b.length := by
    have : i * b.length + b.length ≤ a.length * b.length := by rw [← Nat.succ_mul]; exact Nat.mul_le_mul_right _ hi
    omega
  have e : ((i : Int) * (b.length : Int) + (j : Int)) = ((i * b.length + j : Nat) : Int) := by rw [Int.natCast_add, Int.natCast_mul]
  have h0 : 0 < b.length := by omega
  have e1 : (i * b.length + j) / b.length = i := by rw [Nat.add_comm, Nat.add_mul_div_right _ _ h0, Nat.div_eq_of_lt hj, Nat.zero_add]
  have e2 : (i * b.length + j) % b.length = j := by rw [Nat.add_comm, Nat.add_mul_mod_self_right, Nat.mod_eq_of_lt hj]
  rw [e, roleAt_yes h, e1, e2, atB_get hi, atB_get hj]
end Go.Proofs.Ythickpocfplcoaa
namespace Go.Proofs.Ythickpocfplcoaa
open Go.RowKit Go.Shelf

set_option maxRecDepth 100000 in
set_option maxHeartbeats 4000000 in
theorem table_For (v0 v1 v2 v3 vm : Value) (l : List St) (g h : List Rl) (qs : List Qv) (more : List ByteArray) (w : World) (hp : PolAt w v0 v1 v2 v3 l g h qs) (hl : l.length ≤ 100) (hg : g.length ≤ 100) (hh : h.length ≤ 100) (hq : qs.length ≤ 100) (F : Qv → List ByteArray) (hF : WhoF w qs F)
    (hm : SlA w 1 vm more.length (strs more)) (hml : more.length ≤ 1000) :
    Calls Try.prog 26 #[pv v0 v1 v2 v3, vm] w fun e w' => ∃ t ba bb, e = .returned (.pointer (some ⟨t, 0, none⟩)) ∧ TblAt w' t ba bb (newB (newB (allPrins l g h qs F) ++ more)) (newB (newB (allNames l g h qs))) ∧ Below w.heap.size w w' := by
  have PP := Lib.hid (fun W (hb : Below w.heap.size w W) => policy_Prins v0 v1 v2 v3 l g h qs W (hp.below hb) hl hg hh hq F (hF.below hb))
  have PN := Lib.hid (fun W (hb : Below w.heap.size w W) => policy_Names v0 v1 v2 v3 l g h qs W (hp.below hb) hl hg hh hq)
  have HM := Lib.hid hm
  obtain ⟨a0, c0, rfl⟩ := hp.rs.form
  obtain ⟨a1, c1, rfl⟩ := hp.rg.form
  obtain ⟨a2, c2, rfl⟩ := hp.rh.form
  obtain ⟨a3, c3, rfl⟩ := hp.rq.form
  obtain ⟨am, cm, rfl⟩ := hm.form
  have HT := Lib.hid (show OneAt w #[.slice a0 l.length c0, .slice a1 g.length c1, .slice a2 h.length c2, .slice a3 qs.length c3] (w.alloc (.cells #[.slice a0 l.length c0, .slice a1 g.length c1, .slice a2 h.length c2, .slice a3 qs.length c3] 55)) from ⟨Blk.new w _ _, (Below.refl _ _).alloc (Nat.le_refl _) _⟩)
  obtain ⟨infs, his, hs0, hs1, hs2⟩ := info_parts str_info
  have HIS := Lib.hid his
  clear his hp hF hm
  generalize newB (allPrins l g h qs F) = ps at PP ⊢
  generalize newB (allNames l g h qs) = ns at PN ⊢
  go_enter Try.func26, Try.ntmps26
  go_wp2_with fail
  refine wp_region_held_drew (S := (fun W => ∀ o, W.cell? ⟨w.heap.size, o, none⟩ = (#[.slice a0 l.length c0, .slice a1 g.length c1, .slice a2 h.length c2, .slice a3 qs.length c3] : Array Value)[o]?)) (by kernel_rfl) HT.out.drew.a.1 (fun hHeld => ?_)
  have HT := HT.out.drew
  obtain ⟨wk, hwk⟩ : ∃ W, W = (w.alloc (.cells #[.slice a0 l.length c0, .slice a1 g.length c1, .slice a2 h.length c2, .slice a3 qs.length c3] 55)).drew := ⟨_, rfl⟩
  rw [← hwk] at HT hHeld ⊢
  clear hwk
  (refine held_yes (v := ?_) 0 rfl (by kernel_rfl) (by kernel_rfl) (by kernel_rfl) (fun _ _ _ h => h) (by rfl) (by assumption) ?_ ?_; rotate_left; (focus ((intro w hSw); (try dsimp only at hSw); go_simp; (try with_reducible rfl))); (try simp only [Act.put, List.setIfInBounds_toArray, List.set_cons_zero, List.set_cons_succ])); (refine held_yes (v := ?_) 2 rfl (by kernel_rfl) (by kernel_rfl) (by kernel_rfl) (fun _ _ _ h => h) (by rfl) (by assumption) ?_ ?_; rotate_left; (focus ((intro w hSw); (try dsimp only at hSw); go_simp; (try with_reducible rfl))); (try simp only [Act.put, List.setIfInBounds_toArray, List.set_cons_zero, List.set_cons_succ])); (refine held_yes (v := ?_) 4 rfl (by kernel_rfl) (by kernel_rfl) (by kernel_rfl) (fun _ _ _ h => h) (by rfl) (by assumption) ?_ ?_; rotate_left; (focus ((intro w hSw); (try dsimp only at hSw); go_simp; (try with_reducible rfl))); (try simp only [Act.put, List.setIfInBounds_toArray, List.set_cons_zero, List.set_cons_succ]))
  (refine held_call 1 rfl (by kernel_rfl) (fun K hK => ?_); go_simp)
  go_at_call 45; refine (PP.out _ HT.low).mono ?_; rintro e w1 ⟨v1, rfl, ho, hpl, hb⟩; have HT1 := HT.later hb; obtain ⟨ao, co, hv⟩ := own_form ho; subst hv; clear PP
  (refine hK.out _ _ (HT1.a.1) (fun hHeld => ?_); clear hK K; (try simp only [Act.put, List.setIfInBounds_toArray, List.set_cons_zero, List.set_cons_succ]))
  refine held_call 3 rfl (by kernel_rfl) (fun K hK => ?_)
  refine step_row rfl _ _ 22 rfl wk.heap.size 9 infs _ 1 16 Try.underlying22 HIS.out hs0 hs1 hs2 (Nat.le_of_ble_eq_true rfl) rfl (Nat.le_of_ble_eq_true rfl) _ ps.length _ rfl ho _ more.length _ rfl (HM.out.below HT1.low) (strs_one _) (by omega) hb.size ?_
  intro a5 c5 w5 ho5 hg5
  obtain ⟨ho6, hb6⟩ := push_txts hb ho ho5 hg5
  have HT5 := HT.later hb6
  have HS := Lib.hid (show Sl w5 1 (.slice a5 (ps.length + more.length) c5) (ps ++ more).length (strs (ps ++ more)) by rw [List.length_append]; exact Sl.of_own ho6)
  clear ho ho5 hg5 ho6 hb6 hb HT1
  (refine hK.out _ _ (HT5.a.1) (fun hHeld => ?_); clear hK K; (try simp only [Act.put, List.setIfInBounds_toArray, List.set_cons_zero, List.set_cons_succ]))
  (refine held_call 5 rfl (by kernel_rfl) (fun K hK => ?_); go_simp)
  go_at_call 46; refine (PN.out _ HT5.low).mono ?_; rintro e w6 ⟨v6, rfl, ho, hnl, hb⟩; have HT6 := HT5.later hb; have HS := Lib.hid (HS.out.below hb); have HN := Lib.hid (Sl.of_own ho); obtain ⟨an, cn, hv⟩ := own_form ho; subst hv; clear PN ho hb HT5
  (refine hK.out _ _ (HT6.a.1) (fun hHeld => ?_); clear hK K; (try simp only [Act.put, List.setIfInBounds_toArray, List.set_cons_zero, List.set_cons_succ]))
  (refine held_call 6 rfl (by kernel_rfl) (fun K hK => ?_); go_simp)
  go_at_call 9; refine (table_New _ _ (ps ++ more) ns w6 HS.out.a HN.out.a (by rw [List.length_append]; omega) (by omega)).mono ?_; rintro e w7 ⟨t, ba, bb, rfl, ht, hb⟩; have HT7 := HT6.later hb; have HTB := Lib.hid ht; clear ht hb HT6
  (refine hK.out _ _ (HT7.a.1) (fun hHeld => ?_); clear hK K; (try simp only [Act.put, List.setIfInBounds_toArray, List.set_cons_zero, List.set_cons_succ]))
  (refine held_yes (v := ?_) 7 rfl (by kernel_rfl) (by kernel_rfl) (by kernel_rfl) (fun _ _ _ h => h) (by rfl) (by assumption) ?_ ?_; rotate_left; (focus ((intro w hSw); (try dsimp only at hSw); go_simp; (try with_reducible rfl))); (try simp only [Act.put, List.setIfInBounds_toArray, List.set_cons_zero, List.set_cons_succ]))
  refine wpAnyH_done (by kernel_rfl) ?_ _
  have HT := Lib.hid HT7
  clear HT7
  go_wp2
  go_ret
  exact ⟨t, ba, bb, rfl, HTB.out, HT.out.low⟩

def Ru.cells (r : Ru) : List Value := [.int .i64 r.k, .int .i64 r.h, .int .i64 r.who, .int .i64 r.a, .int .i64 r.b, .int .i64 r.via]
theorem Ru.cells_len (r : Ru) : r.cells.length = 6 := rfl
theorem rus_one (l : List Ru) : ∀ u ∈ l.flatMap Ru.cells, u.oneCell' = true := by
  intro u hu
  obtain ⟨x, _, hx⟩ := List.mem_flatMap.1 hu
  simp only [Ru.cells, List.mem_cons, List.not_mem_nil, or_false] at hx
  rcases hx with rfl | rfl | rfl | rfl | rfl | rfl <;> rfl
theorem ru_cell {w : World} {b off : Nat} {l : List Ru} (h : ∀ j u, (l.flatMap Ru.cells)[j]? = some u → w.cell? ⟨b, off + j, none⟩ = some u) (k : Nat) (hk : k < l.length) :
    w.cell? ⟨b, off + k * 6, none⟩ = some (.int .i64 l[k].k) ∧ w.cell? ⟨b, off + k * 6 + 1, none⟩ = some (.int .i64 l[k].h) ∧ w.cell? ⟨b, off + k * 6 + 2, none⟩ = some (.int .i64 l[k].who) ∧ w.cell? ⟨b, off + k * 6 + 3, none⟩ = some (.int .i64 l[k].a) ∧ w.cell? ⟨b, off + k * 6 + 4, none⟩ = some (.int .i64 l[k].b) ∧ w.cell? ⟨b, off + k * 6 + 5, none⟩ = some (.int .i64 l[k].via) := by
  have hx : l[k]? = some l[k] := List.getElem?_eq_getElem hk
  have h0 := h _ _ ((flat_get Ru.cells 6 Ru.cells_len l k 0 (by omega) _ hx).trans rfl)
  have h1 := h _ _ ((flat_get Ru.cells 6 Ru.cells_len l k 1 (by omega) _ hx).trans rfl)
  have h2 := h _ _ ((flat_get Ru.cells 6 Ru.cells_len l k 2 (by omega) _ hx).trans rfl)
  have h3 := h _ _ ((flat_get Ru.cells 6 Ru.cells_len l k 3 (by omega) _ hx).trans rfl)
  have h4 := h _ _ ((flat_get Ru.cells 6 Ru.cells_len l k 4 (by omega) _ hx).trans rfl)
  have h5 := h _ _ ((flat_get Ru.cells 6 Ru.cells_len l k 5 (by omega) _ hx).trans rfl)
  simp only [Nat.add_zero, ← Nat.add_assoc] at h0 h1 h2 h3 h4 h5
  exact ⟨h0, h1, h2, h3, h4, h5⟩
theorem ru_info : (Try.prog.info? 34).map (fun i => (i.zero, i.size, i.bytes)) = some (some (.agg #[.int .i64 0, .int .i64 0, .int .i64 0, .int .i64 0, .int .i64 0, .int .i64 0]), 6, 48) := by kernel_rfl
theorem ru1 (a b c d e f : Int) : ∀ u ∈ [Value.int .i64 a, .int .i64 b, .int .i64 c, .int .i64 d, .int .i64 e, .int .i64 f], u.oneCell' = true := by
  intro u hu; simp at hu; rcases hu with rfl | rfl | rfl | rfl | rfl | rfl <;> rfl
/-- The rules of statements. -/
def ruleS (a b : List ByteArray) (s : St) : List Ru := if (ruleN a b s).2 = true then [(ruleN a b s).1] else []
def rulesN (a b : List ByteArray) (l : List St) : List Ru := l.flatMap (ruleS a b)
theorem ruleS_len (a b : List ByteArray) (s : St) : (ruleS a b s).length ≤ 1 := by unfold ruleS; split <;> simp
theorem push_ru {B : Nat} {wA W w3 : World} {vo : Value} {rs : List Ru} {a b c d e f : Int} {a' : Option Addr} {cap' : Nat} (hb : Below B wA W) (hB : B ≤ W.heap.size) (hown : W.ownsRow B 34 6 vo rs.length (rs.flatMap Ru.cells))
    (h : w3.ownsRow B 34 6 (.slice a' (rs.length + 1) cap') (rs.length + 1) (rs.flatMap Ru.cells ++ [.int .i64 a, .int .i64 b, .int .i64 c, .int .i64 d, .int .i64 e, .int .i64 f])) (hg : W.grownBy w3 vo.ownBlock) :
    w3.ownsRow B 34 6 (.slice a' (rs.length + 1) cap') (rs ++ [(⟨a, b, c, d, e, f⟩ : Ru)]).length ((rs ++ [(⟨a, b, c, d, e, f⟩ : Ru)]).flatMap Ru.cells) ∧ Below B wA w3 :=
  ⟨by rw [List.length_append, List.flatMap_append]; exact h, below_own hb hown hg hB (Nat.le_refl _)⟩
set_option maxRecDepth 100000 in
set_option maxHeartbeats 4000000 in
theorem table_Rules {t ba bb : Nat} {a b : List ByteArray} (va : Value) (l : List St) (w : World) (h : TblAt w t ba bb a b) (ha : SlA w 9 va l.length (l.flatMap St.cells)) (hl : allLe l 4294967) (hn : l.length ≤ 100000) :
    Calls Try.prog 32 #[.pointer (some ⟨t, 0, none⟩), va] w fun e w' => ∃ v, e = .returned v ∧ w'.ownsRow w.heap.size 34 6 v (rulesN a b l).length ((rulesN a b l).flatMap Ru.cells) ∧ Below w.heap.size w w' := by
  have HA := Lib.hid ha
  have TR := Lib.hid (fun W (hb : Below w.heap.size w W) k (hk : k < l.length) => table_Rule (h.below hb) l[k] (hl _ (List.getElem_mem hk)))
  have hmax := ha.max
  obtain ⟨a0, c0, rfl⟩ := ha.form
  clear ha h
  go_enter Try.func32, Try.ntmps32
  go_wp2_with fail
  go_loopw [4, 11] (fun vo i wr => ∃ (k : Nat) (rs : List Ru), k ≤ l.length ∧ i = .int .i64 k ∧ Hid (rs.length ≤ k) ∧ Hid (Below w.heap.size w wr) ∧ Hid (wr.ownsRow w.heap.size 34 6 vo rs.length (rs.flatMap Ru.cells)) ∧ Hid (rs = (l.take k).flatMap (ruleS a b))) (fun _ i _ => l.length - (intOf i).toNat)
  case atStart => exact ⟨0, [], by omega, rfl, Lib.hid (by simp), Lib.hid (Below.refl _ _), Lib.hid (World.ownsRow_nil _ _ _ _), Lib.hid (by simp)⟩
  case round =>
    obtain ⟨k, rs, hk, rfl, HC, HB, HO, HE⟩ := hrel
    obtain ⟨oo, oc, rfl⟩ := own_form HO.out
    have hrs := HC.out
    by_cases hlt : k < l.length
    · obtain ⟨b1, o1, e1, he1, hc1, hm1', hb1, hx1⟩ := HA.out.pos (by omega)
      simp only [Value.slice.injEq, true_and] at he1
      obtain ⟨rfl, rfl⟩ := he1
      obtain ⟨p0, p1, p2, p3, p4, p5, p6, p7, p8⟩ := st_cell (w := wr) (fun j u hu => (HB.out.cell (p := ⟨b1, o1 + j, none⟩) hb1).trans (hx1 j u hu)) k hlt
      have hbr : b1 < wr.heap.size := Nat.lt_of_lt_of_le hb1 HB.out.size
      have HF := Lib.hid (flat_snocF (ruleS a b) hlt)
      have TRk := Lib.hid (fun W (hb : Below w.heap.size w W) => TR.out W hb k hlt)
      have HSx := Lib.hid (show ruleS a b l[k] = if (ruleN a b l[k]).2 = true then [(ruleN a b l[k]).1] else [] from rfl)
      clear hx1
      generalize ruleN a b l[k] = rr at TRk HSx
      obtain ⟨⟨k0, k1, k2, k3, k4, k5⟩, ok⟩ := rr
      rw [HSx.out] at HF
      clear HSx
      generalize l[k] = x at *
      obtain ⟨xk, ⟨x1, x2⟩, xw, ⟨x3, x4⟩, ⟨x5, x6⟩, xv⟩ := x
      have HB1 := Lib.hid (HB.out.alloc HB.out.size (.cells #[.int .i64 xk, .string x1, .string x2, .string xw, .string x3, .string x4, .string x5, .string x6, .string xv] 26))
      have HO1 := Lib.hid (HO.out.alloc (.cells #[.int .i64 xk, .string x1, .string x2, .string xw, .string x3, .string x4, .string x5, .string x6, .string xv] 26))
      go_wp2_with fail
      refine (TRk.out _ HB1.out).mono ?_
      rintro e w2 ⟨rfl, hb⟩
      have HO2 := Lib.hid (own_below HO1.out hb)
      have HB2 := Lib.hid (HB1.out.trans (hb.mono HB1.out.size))
      clear hb TRk HO1 HB1 HB HO
      cases ok with
      | true =>
        have hsz := HB2.out.size
        go_wp2_with (at_builtin; refine halt_ ?_)
        unfold Halt_
        refine app_own Try.underlying59 ru_info rfl (by decide) (by decide) rfl _ _ rfl w.heap.size rfl ((HO2.out.alloc _).alloc _) [.int .i64 k0, .int .i64 k1, .int .i64 k2, .int .i64 k3, .int .i64 k4, .int .i64 k5] rfl (heap_new2 _ _ _) rfl (ru1 _ _ _ _ _ _) ?_ ?_ ?_
        · omega
        · simp; omega
        intro a' cap' w3 hown' hgrow
        obtain ⟨q1, q2⟩ := push_ru ((HB2.out.alloc HB2.out.size _).alloc (by simp; omega) _) (by simp; omega) ((HO2.out.alloc _).alloc _) hown' hgrow
        have HO3 := Lib.hid q1
        have HB3 := Lib.hid q2
        clear hown' hgrow q1 q2 hsz
        go_wp2_with fail
        exact ⟨⟨k + 1, rs ++ [⟨k0, k1, k2, k3, k4, k5⟩], by omega, by go_num, Lib.hid (by rw [List.length_append]; exact Nat.succ_le_succ hrs), HB3, HO3, Lib.hid (by rw [HF.out, HE.out]; rfl)⟩, by simp [intOf]; omega⟩
      | false =>
        have HO3 := Lib.hid (HO2.out.alloc (.cells #[.int .i64 k0, .int .i64 k1, .int .i64 k2, .int .i64 k3, .int .i64 k4, .int .i64 k5] 34))
        have HB3 := Lib.hid (HB2.out.alloc HB2.out.size (.cells #[.int .i64 k0, .int .i64 k1, .int .i64 k2, .int .i64 k3, .int .i64 k4, .int .i64 k5] 34))
        go_wp2_with fail
        exact ⟨⟨k + 1, rs, by omega, by go_num, Lib.hid (by omega), HB3, HO3, Lib.hid (by rw [HF.out, HE.out]; simp)⟩, by simp [intOf]; omega⟩
    · have HRS := Lib.hid (show rs = rulesN a b l by rw [HE.out, List.take_of_length_le (show l.length ≤ k by omega)]; rfl)
      go_wp2
      go_ret
      exact ⟨_, rfl, by rw [← HRS.out]; exact HO.out, HB.out⟩
set_option maxRecDepth 100000 in
set_option maxHeartbeats 1000000 in
theorem ref6_SameT (va vb : Value) (l : List Ru) (w : World) (ha : SlA w 6 va l.length (l.flatMap Ru.cells)) (hb : SlA w 6 vb l.length (l.flatMap Ru.cells)) :
    Calls Try.prog 31 #[va, vb] w fun e w' => e = .returned (.bool true) ∧ Below w.heap.size w w' := by
  have hmax := ha.max
  have hne : ((l.length : Int) != (l.length : Int)) = false := by simp
  by_cases h0 : 0 < l.length
  · obtain ⟨b1, o1, c1, rfl, hc1, hm1, _, hx1⟩ := ha.pos h0
    obtain ⟨b2, o2, c2, rfl, hc2, hm2, _, hx2⟩ := hb.pos h0
    have HX1 := Lib.hid hx1
    have HX2 := Lib.hid hx2
    clear ha hb hx1 hx2
    go_enter Try.func31, Try.ntmps31
    go_wp2
    go_loopw [13] (fun i wr => ∃ k n : Nat, k ≤ l.length ∧ i = .int .i64 k ∧ wr = w.drewN n) (fun i _ => l.length - (intOf i).toNat)
    case atStart => exact ⟨0, 0, by omega, rfl, rfl⟩
    case round =>
      obtain ⟨k, n, hk, rfl, rfl⟩ := hrel
      by_cases hlt : k < l.length
      · obtain ⟨p0, p1, p2, p3, p4, p5⟩ := ru_cell HX1.out k hlt
        obtain ⟨q0, q1, q2, q3, q4, q5⟩ := ru_cell HX2.out k hlt
        generalize l[k] = x at *
        obtain ⟨k0, k1, k2, k3, k4, k5⟩ := x
        have HNe : ∀ W, (binOp .neq 34 (.agg #[.int .i64 k0, .int .i64 k1, .int .i64 k2, .int .i64 k3, .int .i64 k4, .int .i64 k5]) (.agg #[.int .i64 k0, .int .i64 k1, .int .i64 k2, .int .i64 k3, .int .i64 k4, .int .i64 k5])).run Try.prog W = .ok (.bool false) W := fun W => (rule_neq k0 k1 k2 k3 k4 k5 k0 k1 k2 k3 k4 k5 W).trans (by rw [eqRu_self]; rfl)
        go_wp2_with fail
        go_quiet (fail)
        go_wp2
        exact ⟨⟨k + 1, n + nq, by omega, by go_num, rfl⟩, by simp [intOf]; omega⟩
      · go_wp2
        go_ret
        exact ⟨rfl, below_of_drewN n⟩
  · obtain ⟨a1, c1, rfl⟩ := ha.form
    obtain ⟨a2, c2, rfl⟩ := hb.form
    obtain rfl : l = [] := List.eq_nil_of_length_eq_zero (by omega)
    clear ha hb h0 hmax
    go_enter Try.func31, Try.ntmps31
    go_wp2
    go_loopw [13] (fun i wr => i = .int .i64 0 ∧ wr = w) (fun _ _ => 0)
    case atStart => exact ⟨rfl, rfl⟩
    case round =>
      obtain ⟨rfl, rfl⟩ := hrel
      go_wp2
      go_ret
      exact ⟨rfl, Below.refl _ _⟩
theorem new_idem (l : List ByteArray) : newB (newB l) = newB l :=
  asc_uniqueB _ _ (new_asc _) (new_asc _) (fun x => by rw [new_mem])
theorem who_ex {w : World} {qs : List Qv} (h : ∀ q ∈ qs, q.okN 40 w) : ∃ F, WhoF w qs F := by
  refine ⟨fun q => @dite _ (q.okN 40 w) (Classical.propDecidable _) (fun hq => hq.2.2.choose) (fun _ => []), fun q hq => ?_⟩
  have hq' := h q hq
  have e : (@dite _ (q.okN 40 w) (Classical.propDecidable _) (fun hq => hq.2.2.choose) (fun _ => [])) = hq'.2.2.choose := dif_pos hq'
  dsimp only
  rw [e]
  exact ⟨hq'.2.2.choose_spec.1, hq'.2.2.choose_spec.2.1⟩
end Go.Proofs.Ythickpocfplcoaa
