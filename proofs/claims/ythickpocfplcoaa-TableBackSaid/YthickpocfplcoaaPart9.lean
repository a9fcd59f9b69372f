/- table.Table.Rule (printed by gen_tabrule.py). Plain laws: which rules may be; the statement of a rule; rules and statements undo each other. -/
import Derived.Test.YthickpocfplcoaaPart8
import Derived.Test.YthickpocfplcoaaPart6
import Derived.Test.YthickpocfplcoaaPart3
namespace Go.Proofs.Ythickpocfplcoaa
open Go.RowKit Go.Shelf

theorem ruleN_no {a b : List ByteArray} {s : St} (h : rightS s = false) : ruleN a b s = (noRu, false) := by unfold ruleN; rw [if_neg (fun h' => by rw [h] at h'; exact Bool.false_ne_true h'.1)]
theorem ruleN_bad {a b : List ByteArray} {s : St} (h : ruleOk (ruleR a b s) = false) : ruleN a b s = (noRu, false) := by unfold ruleN; rw [if_neg (fun h' => by rw [h] at h'; exact Bool.false_ne_true h'.2)]
theorem ruleN_ok {a b : List ByteArray} {s : St} (h : rightS s = true) (h' : ruleOk (ruleR a b s) = true) : ruleN a b s = (ruleR a b s, true) := by unfold ruleN; rw [if_pos ⟨h, h'⟩]
theorem run_min5 {P : Program} (ts : Array TypeId) (t : TypeId) (x0 x1 x2 x3 x4 : Int) : ∃ m, (∀ w, (Builtin.min_ ts t #[.int .i64 x0, .int .i64 x1, .int .i64 x2, .int .i64 x3, .int .i64 x4]).run P w = .ok (.int .i64 m) w) ∧ decide (m < 0) = !decide (0 ≤ x0 ∧ 0 ≤ x1 ∧ 0 ≤ x2 ∧ 0 ≤ x3 ∧ 0 ≤ x4) := by
  obtain ⟨m1, h1⟩ : ∃ m, m = if x1 < x0 then x1 else x0 := ⟨_, rfl⟩
  obtain ⟨m2, h2⟩ : ∃ m, m = if x2 < m1 then x2 else m1 := ⟨_, rfl⟩
  obtain ⟨m3, h3⟩ : ∃ m, m = if x3 < m2 then x3 else m2 := ⟨_, rfl⟩
  obtain ⟨m4, h4⟩ : ∃ m, m = if x4 < m3 then x4 else m3 := ⟨_, rfl⟩
  refine ⟨m4, fun w => ?_, ?_⟩
  · simp [Builtin.min_, Builtin.min2, ← h1, ← h2, ← h3, ← h4]
  · rw [Bool.eq_iff_iff, decide_eq_true_iff, Bool.not_eq_true', decide_eq_false_iff_not]
    split at h1 <;> split at h2 <;> split at h3 <;> split at h4 <;> omega
theorem TwoAt.new' (w : World) (A B : Array Value) (t u : TypeId) : TwoAt w A B ((w.alloc (.cells A t)).alloc (.cells B u)) :=
  ⟨(Blk.new w A t).alloc _, by have := Blk.new (w.alloc (.cells A t)) B u; simpa using this, ((Below.refl _ _).alloc (Nat.le_refl _) _).alloc (by simp) _⟩

set_option maxRecDepth 100000 in
set_option maxHeartbeats 16000000 in
theorem table_RuleG (pt : Option Addr) (a b : List ByteArray) (w : World) (sa : AscB a) (sb : AscB b) (na : a.length ≤ 1000) (nb : b.length ≤ 1000)
    (RO : ∀ r W, Below w.heap.size w W → Calls Try.prog 13 #[.pointer pt, rv r] W fun e w' => e = .returned (.int .i64 (roleN a b r)) ∧ Below W.heap.size W w')
    (PR : ∀ W, Below w.heap.size w W → Calls Try.prog 16 #[.pointer pt] W fun e w' => ∃ q, e = .returned (.pointer (some ⟨q, 0, none⟩)) ∧ TabAt w' q a ∧ Below W.heap.size W w')
    (LK : ∀ W, Below w.heap.size w W → Calls Try.prog 18 #[.pointer pt] W fun e w' => ∃ q, e = .returned (.pointer (some ⟨q, 0, none⟩)) ∧ TabAt w' q b ∧ Below W.heap.size W w') (s : St) (hs : s.le 4294967) :
    Calls Try.prog 11 #[.pointer pt, sv s] w fun e w' => e = .returned (.tuple #[ruv (ruleN a b s).1, .bool (ruleN a b s).2]) ∧ Below w.heap.size w w' := by
  have SR := Lib.hid (fun W => syn_Right s W hs)
  have RO := Lib.hid RO
  have PR := Lib.hid PR
  have LK := Lib.hid LK
  have FA := Lib.hid (fun s q W (h : TabAt W q a) => tab_Find q a s W h sa (by omega))
  have FB := Lib.hid (fun s q W (h : TabAt W q b) => tab_Find q b s W h sb (by omega))
  clear sa sb na nb
  obtain ⟨k, ⟨h1, h2⟩, who, ⟨s1, s2⟩, ⟨s3, s4⟩, via⟩ := s
  have HT := Lib.hid (TwoAt.new' w #[.int .i64 k, .string h1, .string h2, .string who, .string s1, .string s2, .string s3, .string s4, .string via] #[.int .i64 0, .int .i64 0, .int .i64 0, .int .i64 0, .int .i64 0, .int .i64 0] 26 34)
  cases hr : rightS ⟨k, ⟨h1, h2⟩, who, ⟨s1, s2⟩, ⟨s3, s4⟩, via⟩ with
  | false =>
    have R := Lib.hid (ruleN_no (a := a) (b := b) hr)
    rw [hr] at SR
    clear hr
    go_enter Try.func11, Try.ntmps11
    go_wp2_with fail
    refine (SR.out _).mono ?_
    rintro e w1 ⟨rfl, hb⟩
    have HT := Lib.hid (HT.out.later hb)
    clear hb
    obtain ⟨cb, fb, zb⟩ := HT.out.b
    go_wp2
    refine bodyPost_ret (v := .tuple #[ruv noRu, .bool false]) (by simp [results, Try.results11, go_sem, noRu, cb]) rfl ⟨by rw [R.out], ?_⟩
    exact below_puts (by omega) [.int .i64 0, .int .i64 0, .int .i64 0, .int .i64 0, .int .i64 0, .int .i64 0] 0 w1 HT.out.low
  | true =>
  rw [hr] at SR
  have RR := Lib.hid (ruleN_ok (a := a) (b := b) hr)
  have RB := Lib.hid (ruleN_bad (a := a) (b := b) (s := ⟨k, ⟨h1, h2⟩, who, ⟨s1, s2⟩, ⟨s3, s4⟩, via⟩))
  have HR := Lib.hid hr
  clear hr
  go_enter Try.func11, Try.ntmps11
  go_wp2_with fail
  refine (SR.out _).mono ?_
  rintro e w1 ⟨rfl, hb⟩
  have HT := Lib.hid (HT.out.later hb)
  clear hb SR
  have RH := Lib.hid (fun W hb => RO.out ⟨h1, h2⟩ W hb)
  obtain ⟨rh, hrh⟩ : ∃ r, r = roleN a b ⟨h1, h2⟩ := ⟨_, rfl⟩
  rw [← hrh] at RH
  have HRH := Lib.hid hrh
  clear hrh
  go_upto_region 4 with fail
  go_cut [6] (fun s6 wx => ∃ b6 : Nat, s6 = .pointer (some ⟨b6, 0, none⟩) ∧ w.heap.size + 1 < b6 ∧ Hid (TwoAt w #[.int .i64 k, .string h1, .string h2, .string who, .string s1, .string s2, .string s3, .string s4, .string via] #[.int .i64 0, .int .i64 0, .int .i64 0, .int .i64 0, .int .i64 0, .int .i64 0] wx) ∧ Hid (Blk wx b6 #[.int .i64 k, .int .i64 rh, .int .i64 0, .int .i64 0, .int .i64 0, .int .i64 0]))
  case first =>
    have HT := HT.out
    obtain ⟨ca, fa, za⟩ := HT.a
    go_wp2_with fail
    clear ca fa za
    refine wp_region_held_drew (S := (fun W => ∀ o, W.cell? ⟨w.heap.size, o, none⟩ = (#[.int .i64 k, .string h1, .string h2, .string who, .string s1, .string s2, .string s3, .string s4, .string via] : Array Value)[o]?)) (by kernel_rfl) HT.drew.a.1 (fun hHeld => ?_)
    have HT := HT.drew
    obtain ⟨wk, hwk⟩ : ∃ W, W = w1.drew := ⟨_, rfl⟩
    rw [← hwk] at HT hHeld ⊢
    clear hwk
    (refine held_yes (v := ?_) 0 rfl (by kernel_rfl) (by kernel_rfl) (by kernel_rfl) (fun _ _ _ h => h) (by rfl) (by assumption) ?_ ?_; rotate_left; (focus ((intro w hSw); (try dsimp only at hSw); go_simp; (try with_reducible rfl))); (try simp only [Act.put, List.setIfInBounds_toArray, List.set_cons_zero, List.set_cons_succ])); (refine held_yes (v := ?_) 1 rfl (by kernel_rfl) (by kernel_rfl) (by kernel_rfl) (fun _ _ _ h => h) (by rfl) (by assumption) ?_ ?_; rotate_left; (focus ((intro w hSw); (try dsimp only at hSw); go_simp; (try with_reducible rfl))); (try simp only [Act.put, List.setIfInBounds_toArray, List.set_cons_zero, List.set_cons_succ])); (refine held_yes (v := ?_) 2 rfl (by kernel_rfl) (by kernel_rfl) (by kernel_rfl) (fun _ _ _ h => h) (by rfl) (by assumption) ?_ ?_; rotate_left; (focus ((intro w hSw); (try dsimp only at hSw); go_simp; (try with_reducible rfl))); (try simp only [Act.put, List.setIfInBounds_toArray, List.set_cons_zero, List.set_cons_succ])); (refine held_yes (v := ?_) 3 rfl (by kernel_rfl) (by kernel_rfl) (by kernel_rfl) (fun _ _ _ h => h) (by rfl) (by assumption) ?_ ?_; rotate_left; (focus ((intro w hSw); (try dsimp only at hSw); go_simp; (try with_reducible rfl))); (try simp only [Act.put, List.setIfInBounds_toArray, List.set_cons_zero, List.set_cons_succ])); (refine held_yes (v := ?_) 4 rfl (by kernel_rfl) (by kernel_rfl) (by kernel_rfl) (fun _ _ _ h => h) (by rfl) (by assumption) ?_ ?_; rotate_left; (focus ((intro w hSw); (try dsimp only at hSw); go_simp; (try with_reducible rfl))); (try simp only [Act.put, List.setIfInBounds_toArray, List.set_cons_zero, List.set_cons_succ]))
    refine wpAnyH_ready (rs := [5, 7]) (by kernel_rfl) (by simp) (AllReadyH.cons rfl (fun K hK => ?_) (AllReadyH.cons rfl (fun K hK => ?_) AllReadyH.nil))
    · go_simp
      go_at_call 13; refine (RH.out _ HT.low).mono ?_; rintro e wk1 ⟨rfl, hbq⟩
      have HT := HT.later hbq
      clear hbq
      (refine hK.out _ _ (HT.a.1) (fun hHeld => ?_); clear hK K; (try simp only [Act.put, List.setIfInBounds_toArray, List.set_cons_zero, List.set_cons_succ]))
      (refine held_yes (v := ?_) 6 rfl (by kernel_rfl) (by kernel_rfl) (by kernel_rfl) (fun _ _ _ h => h) (by rfl) (by assumption) ?_ ?_; rotate_left; (focus ((intro w hSw); (try dsimp only at hSw); go_simp; (try with_reducible rfl))); (try simp only [Act.put, List.setIfInBounds_toArray, List.set_cons_zero, List.set_cons_succ]))
      (refine held_call 7 rfl (by kernel_rfl) (fun K hK => ?_); go_simp)
      obtain ⟨b6, hb6⟩ : ∃ b, b = wk1.heap.size := ⟨_, rfl⟩
      obtain ⟨wk2, hwn⟩ : ∃ V, V = wk1.alloc (.cells #[.int .i64 0, .int .i64 0, .int .i64 0, .int .i64 0, .int .i64 0, .int .i64 0] 34) := ⟨_, rfl⟩
      rw [← hwn, ← hb6]
      have H6 : Blk wk2 b6 #[.int .i64 0, .int .i64 0, .int .i64 0, .int .i64 0, .int .i64 0, .int .i64 0] := by rw [hwn, hb6]; exact Blk.new _ _ _
      have lo6 : w.heap.size + 1 < b6 := by rw [hb6]; exact HT.b.2.2
      have HT : TwoAt w #[.int .i64 k, .string h1, .string h2, .string who, .string s1, .string s2, .string s3, .string s4, .string via] #[.int .i64 0, .int .i64 0, .int .i64 0, .int .i64 0, .int .i64 0, .int .i64 0] wk2 := by rw [hwn]; exact HT.alloc _
      clear hwn hb6
      (refine hK.out _ _ (HT.a.1) (fun hHeld => ?_); clear hK K; (try simp only [Act.put, List.setIfInBounds_toArray, List.set_cons_zero, List.set_cons_succ]))
      have Hc := H6
      obtain ⟨cs, fs, zs⟩ := Hc
      (refine held_call 8 rfl (by kernel_rfl) (fun K hK => ?_); go_simp)
      clear cs fs zs
      generalize hw : ((((((wk2.setCell ⟨b6, 0, none⟩ (.int .i64 k)).setCell ⟨b6, 1, none⟩ (.int .i64 rh)).setCell ⟨b6, 2, none⟩ (.int .i64 0)).setCell ⟨b6, 3, none⟩ (.int .i64 0)).setCell ⟨b6, 4, none⟩ (.int .i64 0)).setCell ⟨b6, 5, none⟩ (.int .i64 0)) = wn
      have H6 : Blk wn b6 #[.int .i64 k, .int .i64 rh, .int .i64 0, .int .i64 0, .int .i64 0, .int .i64 0] := by rw [← hw]; simpa using ((((((H6.put (o := 0) (v := .int .i64 k) (by simp)).put (o := 1) (v := .int .i64 rh) (by simp)).put (o := 2) (v := .int .i64 0) (by simp)).put (o := 3) (v := .int .i64 0) (by simp)).put (o := 4) (v := .int .i64 0) (by simp)).put (o := 5) (v := .int .i64 0) (by simp))
      have HT : TwoAt w #[.int .i64 k, .string h1, .string h2, .string who, .string s1, .string s2, .string s3, .string s4, .string via] #[.int .i64 0, .int .i64 0, .int .i64 0, .int .i64 0, .int .i64 0, .int .i64 0] wn := by
        rw [← hw]
        exact ⟨HT.a.puts_far (g := b6) (by omega) [.int .i64 k, .int .i64 rh, .int .i64 0, .int .i64 0, .int .i64 0, .int .i64 0] 0 wk2, HT.b.puts_far (g := b6) (by omega) [.int .i64 k, .int .i64 rh, .int .i64 0, .int .i64 0, .int .i64 0, .int .i64 0] 0 wk2, below_puts (by omega) [.int .i64 k, .int .i64 rh, .int .i64 0, .int .i64 0, .int .i64 0, .int .i64 0] 0 wk2 HT.low⟩
      clear hw
      (refine hK.out _ _ (HT.a.1) (fun hHeld => ?_); clear hK K; (try simp only [Act.put, List.setIfInBounds_toArray, List.set_cons_zero, List.set_cons_succ]))
      refine wpAnyH_done (by kernel_rfl) ?_ _
      go_wp2_with fail
      go_meet
      exact ⟨b6, rfl, lo6, Lib.hid HT, Lib.hid H6⟩
    · go_simp
      obtain ⟨b6, hb6⟩ : ∃ b, b = wk.heap.size := ⟨_, rfl⟩
      obtain ⟨wk1, hwn⟩ : ∃ V, V = wk.alloc (.cells #[.int .i64 0, .int .i64 0, .int .i64 0, .int .i64 0, .int .i64 0, .int .i64 0] 34) := ⟨_, rfl⟩
      rw [← hwn, ← hb6]
      have H6 : Blk wk1 b6 #[.int .i64 0, .int .i64 0, .int .i64 0, .int .i64 0, .int .i64 0, .int .i64 0] := by rw [hwn, hb6]; exact Blk.new _ _ _
      have lo6 : w.heap.size + 1 < b6 := by rw [hb6]; exact HT.b.2.2
      have HT : TwoAt w #[.int .i64 k, .string h1, .string h2, .string who, .string s1, .string s2, .string s3, .string s4, .string via] #[.int .i64 0, .int .i64 0, .int .i64 0, .int .i64 0, .int .i64 0, .int .i64 0] wk1 := by rw [hwn]; exact HT.alloc _
      clear hwn hb6
      (refine hK.out _ _ (HT.a.1) (fun hHeld => ?_); clear hK K; (try simp only [Act.put, List.setIfInBounds_toArray, List.set_cons_zero, List.set_cons_succ]))
      (refine held_call 5 rfl (by kernel_rfl) (fun K hK => ?_); go_simp)
      go_at_call 13; refine (RH.out _ HT.low).mono ?_; rintro e wk2 ⟨rfl, hbq⟩
      have H6 := H6.below hbq
      have HT := HT.later hbq
      clear hbq
      (refine hK.out _ _ (HT.a.1) (fun hHeld => ?_); clear hK K; (try simp only [Act.put, List.setIfInBounds_toArray, List.set_cons_zero, List.set_cons_succ]))
      (refine held_yes (v := ?_) 6 rfl (by kernel_rfl) (by kernel_rfl) (by kernel_rfl) (fun _ _ _ h => h) (by rfl) (by assumption) ?_ ?_; rotate_left; (focus ((intro w hSw); (try dsimp only at hSw); go_simp; (try with_reducible rfl))); (try simp only [Act.put, List.setIfInBounds_toArray, List.set_cons_zero, List.set_cons_succ]))
      have Hc := H6
      obtain ⟨cs, fs, zs⟩ := Hc
      (refine held_call 8 rfl (by kernel_rfl) (fun K hK => ?_); go_simp)
      clear cs fs zs
      generalize hw : ((((((wk2.setCell ⟨b6, 0, none⟩ (.int .i64 k)).setCell ⟨b6, 1, none⟩ (.int .i64 rh)).setCell ⟨b6, 2, none⟩ (.int .i64 0)).setCell ⟨b6, 3, none⟩ (.int .i64 0)).setCell ⟨b6, 4, none⟩ (.int .i64 0)).setCell ⟨b6, 5, none⟩ (.int .i64 0)) = wn
      have H6 : Blk wn b6 #[.int .i64 k, .int .i64 rh, .int .i64 0, .int .i64 0, .int .i64 0, .int .i64 0] := by rw [← hw]; simpa using ((((((H6.put (o := 0) (v := .int .i64 k) (by simp)).put (o := 1) (v := .int .i64 rh) (by simp)).put (o := 2) (v := .int .i64 0) (by simp)).put (o := 3) (v := .int .i64 0) (by simp)).put (o := 4) (v := .int .i64 0) (by simp)).put (o := 5) (v := .int .i64 0) (by simp))
      have HT : TwoAt w #[.int .i64 k, .string h1, .string h2, .string who, .string s1, .string s2, .string s3, .string s4, .string via] #[.int .i64 0, .int .i64 0, .int .i64 0, .int .i64 0, .int .i64 0, .int .i64 0] wn := by
        rw [← hw]
        exact ⟨HT.a.puts_far (g := b6) (by omega) [.int .i64 k, .int .i64 rh, .int .i64 0, .int .i64 0, .int .i64 0, .int .i64 0] 0 wk2, HT.b.puts_far (g := b6) (by omega) [.int .i64 k, .int .i64 rh, .int .i64 0, .int .i64 0, .int .i64 0, .int .i64 0] 0 wk2, below_puts (by omega) [.int .i64 k, .int .i64 rh, .int .i64 0, .int .i64 0, .int .i64 0, .int .i64 0] 0 wk2 HT.low⟩
      clear hw
      (refine hK.out _ _ (HT.a.1) (fun hHeld => ?_); clear hK K; (try simp only [Act.put, List.setIfInBounds_toArray, List.set_cons_zero, List.set_cons_succ]))
      refine wpAnyH_done (by kernel_rfl) ?_ _
      go_wp2_with fail
      go_meet
      exact ⟨b6, rfl, lo6, Lib.hid HT, Lib.hid H6⟩
  case rest =>
    clear HT RH
    obtain ⟨b6, rfl, lo6, HT, H6⟩ := hcut
    rename World => wc
    have HT := HT.out
    have H6 := H6.out
    by_cases hk : k = 1
    · skip
      subst hk
      obtain ⟨ca, fa, za⟩ := HT.a
      go_wp2_with fail
      obtain ⟨pw, hpw⟩ : ∃ x, x = placeB a who := ⟨_, rfl⟩
      have FW := Lib.hid (fun q W hb => FA.out who q W hb)
      rw [← hpw] at FW
      have RV : ruleR a b ⟨1, ⟨h1, h2⟩, who, ⟨s1, s2⟩, ⟨s3, s4⟩, via⟩ = ⟨1, rh, pw, 0, 0, 0⟩ := by unfold ruleR; simp [HRH.out, hpw]
      clear ca fa za hpw
      refine wp_region_held_drew (S := (fun W => ∀ o, W.cell? ⟨w.heap.size, o, none⟩ = (#[.int .i64 1, .string h1, .string h2, .string who, .string s1, .string s2, .string s3, .string s4, .string via] : Array Value)[o]?)) (by kernel_rfl) HT.drew.a.1 (fun hHeld => ?_)
      have HT := HT.drew
      have H6 := H6.below (below_drew (Below.refl _ _))
      obtain ⟨wk, hwk⟩ : ∃ W, W = wc.drew := ⟨_, rfl⟩
      rw [← hwk] at HT H6 hHeld ⊢
      clear hwk
      (refine held_yes (v := ?_) 0 rfl (by kernel_rfl) (by kernel_rfl) (by kernel_rfl) (fun _ _ _ h => h) (by rfl) (by assumption) ?_ ?_; rotate_left; (focus ((intro w hSw); (try dsimp only at hSw); go_simp; (try with_reducible rfl))); (try simp only [Act.put, List.setIfInBounds_toArray, List.set_cons_zero, List.set_cons_succ])); (refine held_yes (v := ?_) 2 rfl (by kernel_rfl) (by kernel_rfl) (by kernel_rfl) (fun _ _ _ h => h) (by rfl) (by assumption) ?_ ?_; rotate_left; (focus ((intro w hSw); (try dsimp only at hSw); go_simp; (try with_reducible rfl))); (try simp only [Act.put, List.setIfInBounds_toArray, List.set_cons_zero, List.set_cons_succ])); (refine held_yes (v := ?_) 3 rfl (by kernel_rfl) (by kernel_rfl) (by kernel_rfl) (fun _ _ _ h => h) (by rfl) (by assumption) ?_ ?_; rotate_left; (focus ((intro w hSw); (try dsimp only at hSw); go_simp; (try with_reducible rfl))); (try simp only [Act.put, List.setIfInBounds_toArray, List.set_cons_zero, List.set_cons_succ]))
      (refine held_call 1 rfl (by kernel_rfl) (fun K hK => ?_); go_simp)
      go_at_call 16; refine (PR.out _ HT.low).mono ?_; rintro e wq ⟨q, rfl, hta, hbq⟩; have H6 := H6.below hbq; have HT := HT.later hbq; clear hbq
      (refine hK.out _ _ (HT.a.1) (fun hHeld => ?_); clear hK K; (try simp only [Act.put, List.setIfInBounds_toArray, List.set_cons_zero, List.set_cons_succ]))
      (refine held_call 4 rfl (by kernel_rfl) (fun K hK => ?_); go_simp)
      go_at_call 36; refine (FW.out _ _ hta).mono ?_; rintro e wq2 ⟨rfl, rfl⟩; clear hta
      (refine hK.out _ _ (HT.a.1) (fun hHeld => ?_); clear hK K; (try simp only [Act.put, List.setIfInBounds_toArray, List.set_cons_zero, List.set_cons_succ]))
      (refine held_yes (v := ?_) 5 rfl (by kernel_rfl) (by kernel_rfl) (by kernel_rfl) (fun _ _ _ h => h) (by rfl) (by assumption) ?_ ?_; rotate_left; (focus ((intro w hSw); (try dsimp only at hSw); go_simp; (try with_reducible rfl))); (try simp only [Act.put, List.setIfInBounds_toArray, List.set_cons_zero, List.set_cons_succ]))
      have Hc := H6
      obtain ⟨cs, fs, zs⟩ := Hc
      (refine held_call 6 rfl (by kernel_rfl) (fun K hK => ?_); go_simp)
      clear cs fs zs
      generalize hw : (wq2.setCell ⟨b6, 2, none⟩ (.int .i64 pw)) = wn
      have H6 : Blk wn b6 #[.int .i64 1, .int .i64 rh, .int .i64 pw, .int .i64 0, .int .i64 0, .int .i64 0] := by rw [← hw]; simpa using (H6.put (o := 2) (v := .int .i64 pw) (by simp))
      have HT : TwoAt w #[.int .i64 1, .string h1, .string h2, .string who, .string s1, .string s2, .string s3, .string s4, .string via] #[.int .i64 0, .int .i64 0, .int .i64 0, .int .i64 0, .int .i64 0, .int .i64 0] wn := by rw [← hw]; exact ⟨(HT.a.far (by omega)), (HT.b.far (by omega)), (below_put HT.low (by omega))⟩
      clear hw
      (refine hK.out _ _ (HT.a.1) (fun hHeld => ?_); clear hK K; (try simp only [Act.put, List.setIfInBounds_toArray, List.set_cons_zero, List.set_cons_succ]))
      refine wpAnyH_done (by kernel_rfl) ?_ _
      have HT := Lib.hid HT
      obtain ⟨cs, fs, zs⟩ := H6
      obtain ⟨mn, hmn, hmd0⟩ := run_min5 (P := Try.prog) #[3, 3, 3, 3, 3] 3 rh pw 0 0 0
      have hmd : decide (mn < 0) = !ruleOk ⟨1, rh, pw, 0, 0, 0⟩ := hmd0
      clear hmd0
      cases hok : ruleOk ⟨1, rh, pw, 0, 0, 0⟩ with
      | false =>
        have R := Lib.hid (RB.out (by rw [RV]; exact hok))
        have d : decide (mn < 0) = true := by rw [hmd, hok]; rfl
        obtain ⟨cb, fb, zb⟩ := HT.out.b
        clear hmd hok RV
        go_wp2
        refine bodyPost_ret (v := .tuple #[ruv noRu, .bool false]) (by simp [results, Try.results11, go_sem, noRu, cb]) rfl ⟨by rw [R.out], ?_⟩
        exact below_puts (by omega) [.int .i64 0, .int .i64 0, .int .i64 0, .int .i64 0, .int .i64 0, .int .i64 0] 0 wn HT.out.low
      | true =>
        have R := Lib.hid (RR.out (by rw [RV]; exact hok))
        have d : decide (mn < 0) = false := by rw [hmd, hok]; rfl
        have RV := Lib.hid RV
        obtain ⟨cb, fb, zb⟩ := HT.out.b
        clear hmd hok
        go_wp2
        refine bodyPost_ret (v := .tuple #[ruv ⟨1, rh, pw, 0, 0, 0⟩, .bool true]) (by simp [results, Try.results11, go_sem, cb]) rfl ⟨by rw [R.out, RV.out], ?_⟩
        exact below_puts (by omega) [.int .i64 1, .int .i64 rh, .int .i64 pw, .int .i64 0, .int .i64 0, .int .i64 0] 0 wn HT.out.low
    have n1 := hk
    clear hk
    by_cases hk : k = 2
    · skip
      subst hk
      obtain ⟨ca, fa, za⟩ := HT.a
      go_wp2_with fail
      obtain ⟨ra, hra⟩ : ∃ x, x = roleN a b ⟨s1, s2⟩ := ⟨_, rfl⟩
      have RA := Lib.hid (fun W hb => RO.out ⟨s1, s2⟩ W hb)
      rw [← hra] at RA
      have RV : ruleR a b ⟨2, ⟨h1, h2⟩, who, ⟨s1, s2⟩, ⟨s3, s4⟩, via⟩ = ⟨2, rh, 0, ra, 0, 0⟩ := by unfold ruleR; simp [HRH.out, hra]
      clear hra
      refine (RA.out _ HT.low).mono ?_
      rintro e wq2 ⟨rfl, hb⟩
      have HT := HT.later hb
      have H6 := H6.below hb
      clear hb ca fa za
      have Hc := H6
      obtain ⟨cs, fs, zs⟩ := Hc
      go_upto_region 13 with fail
      clear cs fs zs
      generalize hw : (wq2.setCell ⟨b6, 3, none⟩ (.int .i64 ra)) = wn
      have H6 : Blk wn b6 #[.int .i64 2, .int .i64 rh, .int .i64 0, .int .i64 ra, .int .i64 0, .int .i64 0] := by rw [← hw]; simpa using (H6.put (o := 3) (v := .int .i64 ra) (by simp))
      have HT : TwoAt w #[.int .i64 2, .string h1, .string h2, .string who, .string s1, .string s2, .string s3, .string s4, .string via] #[.int .i64 0, .int .i64 0, .int .i64 0, .int .i64 0, .int .i64 0, .int .i64 0] wn := by rw [← hw]; exact ⟨(HT.a.far (by omega)), (HT.b.far (by omega)), (below_put HT.low (by omega))⟩
      clear hw
      have HT := Lib.hid HT
      obtain ⟨cs, fs, zs⟩ := H6
      obtain ⟨mn, hmn, hmd0⟩ := run_min5 (P := Try.prog) #[3, 3, 3, 3, 3] 3 rh 0 ra 0 0
      have hmd : decide (mn < 0) = !ruleOk ⟨2, rh, 0, ra, 0, 0⟩ := hmd0
      clear hmd0
      cases hok : ruleOk ⟨2, rh, 0, ra, 0, 0⟩ with
      | false =>
        have R := Lib.hid (RB.out (by rw [RV]; exact hok))
        have d : decide (mn < 0) = true := by rw [hmd, hok]; rfl
        obtain ⟨cb, fb, zb⟩ := HT.out.b
        clear hmd hok RV
        go_wp2
        refine bodyPost_ret (v := .tuple #[ruv noRu, .bool false]) (by simp [results, Try.results11, go_sem, noRu, cb]) rfl ⟨by rw [R.out], ?_⟩
        exact below_puts (by omega) [.int .i64 0, .int .i64 0, .int .i64 0, .int .i64 0, .int .i64 0, .int .i64 0] 0 wn HT.out.low
      | true =>
        have R := Lib.hid (RR.out (by rw [RV]; exact hok))
        have d : decide (mn < 0) = false := by rw [hmd, hok]; rfl
        have RV := Lib.hid RV
        obtain ⟨cb, fb, zb⟩ := HT.out.b
        clear hmd hok
        go_wp2
        refine bodyPost_ret (v := .tuple #[ruv ⟨2, rh, 0, ra, 0, 0⟩, .bool true]) (by simp [results, Try.results11, go_sem, cb]) rfl ⟨by rw [R.out, RV.out], ?_⟩
        exact below_puts (by omega) [.int .i64 2, .int .i64 rh, .int .i64 0, .int .i64 ra, .int .i64 0, .int .i64 0] 0 wn HT.out.low
    have n2 := hk
    clear hk
    by_cases hk : k = 3
    · skip
      subst hk
      obtain ⟨ca, fa, za⟩ := HT.a
      go_wp2_with fail
      obtain ⟨ra, hra⟩ : ∃ x, x = roleN a b ⟨s1, s2⟩ := ⟨_, rfl⟩
      have RA := Lib.hid (fun W hb => RO.out ⟨s1, s2⟩ W hb)
      rw [← hra] at RA
      obtain ⟨pv, hpv⟩ : ∃ x, x = placeB b via := ⟨_, rfl⟩
      have FV := Lib.hid (fun q W hb => FB.out via q W hb)
      rw [← hpv] at FV
      have RV : ruleR a b ⟨3, ⟨h1, h2⟩, who, ⟨s1, s2⟩, ⟨s3, s4⟩, via⟩ = ⟨3, rh, 0, ra, 0, pv⟩ := by unfold ruleR; simp [HRH.out, hra, hpv]
      clear ca fa za hpv hra
      refine wp_region_held_drew (S := (fun W => ∀ o, W.cell? ⟨w.heap.size, o, none⟩ = (#[.int .i64 3, .string h1, .string h2, .string who, .string s1, .string s2, .string s3, .string s4, .string via] : Array Value)[o]?)) (by kernel_rfl) HT.drew.a.1 (fun hHeld => ?_)
      have HT := HT.drew
      have H6 := H6.below (below_drew (Below.refl _ _))
      obtain ⟨wk, hwk⟩ : ∃ W, W = wc.drew := ⟨_, rfl⟩
      rw [← hwk] at HT H6 hHeld ⊢
      clear hwk
      (refine held_yes (v := ?_) 0 rfl (by kernel_rfl) (by kernel_rfl) (by kernel_rfl) (fun _ _ _ h => h) (by rfl) (by assumption) ?_ ?_; rotate_left; (focus ((intro w hSw); (try dsimp only at hSw); go_simp; (try with_reducible rfl))); (try simp only [Act.put, List.setIfInBounds_toArray, List.set_cons_zero, List.set_cons_succ])); (refine held_yes (v := ?_) 1 rfl (by kernel_rfl) (by kernel_rfl) (by kernel_rfl) (fun _ _ _ h => h) (by rfl) (by assumption) ?_ ?_; rotate_left; (focus ((intro w hSw); (try dsimp only at hSw); go_simp; (try with_reducible rfl))); (try simp only [Act.put, List.setIfInBounds_toArray, List.set_cons_zero, List.set_cons_succ])); (refine held_yes (v := ?_) 2 rfl (by kernel_rfl) (by kernel_rfl) (by kernel_rfl) (fun _ _ _ h => h) (by rfl) (by assumption) ?_ ?_; rotate_left; (focus ((intro w hSw); (try dsimp only at hSw); go_simp; (try with_reducible rfl))); (try simp only [Act.put, List.setIfInBounds_toArray, List.set_cons_zero, List.set_cons_succ])); (refine held_yes (v := ?_) 4 rfl (by kernel_rfl) (by kernel_rfl) (by kernel_rfl) (fun _ _ _ h => h) (by rfl) (by assumption) ?_ ?_; rotate_left; (focus ((intro w hSw); (try dsimp only at hSw); go_simp; (try with_reducible rfl))); (try simp only [Act.put, List.setIfInBounds_toArray, List.set_cons_zero, List.set_cons_succ])); (refine held_yes (v := ?_) 6 rfl (by kernel_rfl) (by kernel_rfl) (by kernel_rfl) (fun _ _ _ h => h) (by rfl) (by assumption) ?_ ?_; rotate_left; (focus ((intro w hSw); (try dsimp only at hSw); go_simp; (try with_reducible rfl))); (try simp only [Act.put, List.setIfInBounds_toArray, List.set_cons_zero, List.set_cons_succ])); (refine held_yes (v := ?_) 7 rfl (by kernel_rfl) (by kernel_rfl) (by kernel_rfl) (fun _ _ _ h => h) (by rfl) (by assumption) ?_ ?_; rotate_left; (focus ((intro w hSw); (try dsimp only at hSw); go_simp; (try with_reducible rfl))); (try simp only [Act.put, List.setIfInBounds_toArray, List.set_cons_zero, List.set_cons_succ]))
      (refine held_call 3 rfl (by kernel_rfl) (fun K hK => ?_); go_simp)
      go_at_call 13; refine (RA.out _ HT.low).mono ?_; rintro e wq ⟨rfl, hbq⟩; have H6 := H6.below hbq; have HT := HT.later hbq; clear hbq
      (refine hK.out _ _ (HT.a.1) (fun hHeld => ?_); clear hK K; (try simp only [Act.put, List.setIfInBounds_toArray, List.set_cons_zero, List.set_cons_succ]))
      (refine held_yes (v := ?_) 9 rfl (by kernel_rfl) (by kernel_rfl) (by kernel_rfl) (fun _ _ _ h => h) (by rfl) (by assumption) ?_ ?_; rotate_left; (focus ((intro w hSw); (try dsimp only at hSw); go_simp; (try with_reducible rfl))); (try simp only [Act.put, List.setIfInBounds_toArray, List.set_cons_zero, List.set_cons_succ]))
      (refine held_call 5 rfl (by kernel_rfl) (fun K hK => ?_); go_simp)
      go_at_call 18; refine (LK.out _ HT.low).mono ?_; rintro e wq2 ⟨q, rfl, htb, hbq⟩; have H6 := H6.below hbq; have HT := HT.later hbq; clear hbq
      (refine hK.out _ _ (HT.a.1) (fun hHeld => ?_); clear hK K; (try simp only [Act.put, List.setIfInBounds_toArray, List.set_cons_zero, List.set_cons_succ]))
      (refine held_call 8 rfl (by kernel_rfl) (fun K hK => ?_); go_simp)
      go_at_call 36; refine (FV.out _ _ htb).mono ?_; rintro e wq3 ⟨rfl, rfl⟩; clear htb
      (refine hK.out _ _ (HT.a.1) (fun hHeld => ?_); clear hK K; (try simp only [Act.put, List.setIfInBounds_toArray, List.set_cons_zero, List.set_cons_succ]))
      have Hc := H6
      obtain ⟨cs, fs, zs⟩ := Hc
      (refine held_call 10 rfl (by kernel_rfl) (fun K hK => ?_); go_simp)
      clear cs fs zs
      generalize hw : wq3.setCell ⟨b6, 3, none⟩ (.int .i64 ra) = wp
      have H6 : Blk wp b6 #[.int .i64 3, .int .i64 rh, .int .i64 0, .int .i64 ra, .int .i64 0, .int .i64 0] := by rw [← hw]; simpa using H6.put (o := 3) (v := .int .i64 ra) (by simp)
      have HT : TwoAt w #[.int .i64 3, .string h1, .string h2, .string who, .string s1, .string s2, .string s3, .string s4, .string via] #[.int .i64 0, .int .i64 0, .int .i64 0, .int .i64 0, .int .i64 0, .int .i64 0] wp := by rw [← hw]; exact ⟨HT.a.far (by omega), HT.b.far (by omega), below_put HT.low (by omega)⟩
      clear hw
      (refine hK.out _ _ (HT.a.1) (fun hHeld => ?_); clear hK K; (try simp only [Act.put, List.setIfInBounds_toArray, List.set_cons_zero, List.set_cons_succ]))
      (refine held_yes (v := ?_) 11 rfl (by kernel_rfl) (by kernel_rfl) (by kernel_rfl) (fun _ _ _ h => h) (by rfl) (by assumption) ?_ ?_; rotate_left; (focus ((intro w hSw); (try dsimp only at hSw); go_simp; (try with_reducible rfl))); (try simp only [Act.put, List.setIfInBounds_toArray, List.set_cons_zero, List.set_cons_succ]))
      have Hc := H6
      obtain ⟨cs, fs, zs⟩ := Hc
      (refine held_call 12 rfl (by kernel_rfl) (fun K hK => ?_); go_simp)
      clear cs fs zs
      generalize hw : (wp.setCell ⟨b6, 5, none⟩ (.int .i64 pv)) = wn
      have H6 : Blk wn b6 #[.int .i64 3, .int .i64 rh, .int .i64 0, .int .i64 ra, .int .i64 0, .int .i64 pv] := by rw [← hw]; simpa using (H6.put (o := 5) (v := .int .i64 pv) (by simp))
      have HT : TwoAt w #[.int .i64 3, .string h1, .string h2, .string who, .string s1, .string s2, .string s3, .string s4, .string via] #[.int .i64 0, .int .i64 0, .int .i64 0, .int .i64 0, .int .i64 0, .int .i64 0] wn := by rw [← hw]; exact ⟨(HT.a.far (by omega)), (HT.b.far (by omega)), (below_put HT.low (by omega))⟩
      clear hw
      (refine hK.out _ _ (HT.a.1) (fun hHeld => ?_); clear hK K; (try simp only [Act.put, List.setIfInBounds_toArray, List.set_cons_zero, List.set_cons_succ]))
      refine wpAnyH_done (by kernel_rfl) ?_ _
      have HT := Lib.hid HT
      obtain ⟨cs, fs, zs⟩ := H6
      obtain ⟨mn, hmn, hmd0⟩ := run_min5 (P := Try.prog) #[3, 3, 3, 3, 3] 3 rh 0 ra 0 pv
      have hmd : decide (mn < 0) = !ruleOk ⟨3, rh, 0, ra, 0, pv⟩ := hmd0
      clear hmd0
      cases hok : ruleOk ⟨3, rh, 0, ra, 0, pv⟩ with
      | false =>
        have R := Lib.hid (RB.out (by rw [RV]; exact hok))
        have d : decide (mn < 0) = true := by rw [hmd, hok]; rfl
        obtain ⟨cb, fb, zb⟩ := HT.out.b
        clear hmd hok RV
        go_wp2
        refine bodyPost_ret (v := .tuple #[ruv noRu, .bool false]) (by simp [results, Try.results11, go_sem, noRu, cb]) rfl ⟨by rw [R.out], ?_⟩
        exact below_puts (by omega) [.int .i64 0, .int .i64 0, .int .i64 0, .int .i64 0, .int .i64 0, .int .i64 0] 0 wn HT.out.low
      | true =>
        have R := Lib.hid (RR.out (by rw [RV]; exact hok))
        have d : decide (mn < 0) = false := by rw [hmd, hok]; rfl
        have RV := Lib.hid RV
        obtain ⟨cb, fb, zb⟩ := HT.out.b
        clear hmd hok
        go_wp2
        refine bodyPost_ret (v := .tuple #[ruv ⟨3, rh, 0, ra, 0, pv⟩, .bool true]) (by simp [results, Try.results11, go_sem, cb]) rfl ⟨by rw [R.out, RV.out], ?_⟩
        exact below_puts (by omega) [.int .i64 3, .int .i64 rh, .int .i64 0, .int .i64 ra, .int .i64 0, .int .i64 pv] 0 wn HT.out.low
    have n3 := hk
    clear hk
    by_cases hk : k = 4
    · skip
      subst hk
      obtain ⟨ca, fa, za⟩ := HT.a
      go_wp2_with fail
      obtain ⟨ra, hra⟩ : ∃ x, x = roleN a b ⟨s1, s2⟩ := ⟨_, rfl⟩
      have RA := Lib.hid (fun W hb => RO.out ⟨s1, s2⟩ W hb)
      rw [← hra] at RA
      obtain ⟨rb, hrb⟩ : ∃ x, x = roleN a b ⟨s3, s4⟩ := ⟨_, rfl⟩
      have RB2 := Lib.hid (fun W hb => RO.out ⟨s3, s4⟩ W hb)
      rw [← hrb] at RB2
      have RV : ruleR a b ⟨4, ⟨h1, h2⟩, who, ⟨s1, s2⟩, ⟨s3, s4⟩, via⟩ = ⟨4, rh, 0, ra, rb, 0⟩ := by unfold ruleR; simp [HRH.out, hra, hrb]
      clear hra hrb
      refine (RB2.out _ HT.low).mono ?_
      rintro e wq ⟨rfl, hb⟩
      have HT := HT.later hb
      have H6 := H6.below hb
      clear hb ca fa za
      obtain ⟨ca, fa, za⟩ := HT.a
      have Hc := H6
      obtain ⟨cs, fs, zs⟩ := Hc
      go_upto_region 11 with fail
      clear cs fs zs ca fa za
      generalize hw : wq.setCell ⟨b6, 4, none⟩ (.int .i64 rb) = wp
      have H6 : Blk wp b6 #[.int .i64 4, .int .i64 rh, .int .i64 0, .int .i64 0, .int .i64 rb, .int .i64 0] := by rw [← hw]; simpa using H6.put (o := 4) (v := .int .i64 rb) (by simp)
      have HT : TwoAt w #[.int .i64 4, .string h1, .string h2, .string who, .string s1, .string s2, .string s3, .string s4, .string via] #[.int .i64 0, .int .i64 0, .int .i64 0, .int .i64 0, .int .i64 0, .int .i64 0] wp := by rw [← hw]; exact ⟨HT.a.far (by omega), HT.b.far (by omega), below_put HT.low (by omega)⟩
      clear hw
      obtain ⟨ca, fa, za⟩ := HT.a
      go_wp2_with fail
      refine (RA.out _ HT.low).mono ?_
      rintro e wq2 ⟨rfl, hb⟩
      have HT := HT.later hb
      have H6 := H6.below hb
      clear hb ca fa za
      have Hc := H6
      obtain ⟨cs, fs, zs⟩ := Hc
      go_upto_region 13 with fail
      clear cs fs zs
      generalize hw : (wq2.setCell ⟨b6, 3, none⟩ (.int .i64 ra)) = wn
      have H6 : Blk wn b6 #[.int .i64 4, .int .i64 rh, .int .i64 0, .int .i64 ra, .int .i64 rb, .int .i64 0] := by rw [← hw]; simpa using (H6.put (o := 3) (v := .int .i64 ra) (by simp))
      have HT : TwoAt w #[.int .i64 4, .string h1, .string h2, .string who, .string s1, .string s2, .string s3, .string s4, .string via] #[.int .i64 0, .int .i64 0, .int .i64 0, .int .i64 0, .int .i64 0, .int .i64 0] wn := by rw [← hw]; exact ⟨(HT.a.far (by omega)), (HT.b.far (by omega)), (below_put HT.low (by omega))⟩
      clear hw
      have HT := Lib.hid HT
      obtain ⟨cs, fs, zs⟩ := H6
      obtain ⟨mn, hmn, hmd0⟩ := run_min5 (P := Try.prog) #[3, 3, 3, 3, 3] 3 rh 0 ra rb 0
      have hmd : decide (mn < 0) = !ruleOk ⟨4, rh, 0, ra, rb, 0⟩ := hmd0
      clear hmd0
      cases hok : ruleOk ⟨4, rh, 0, ra, rb, 0⟩ with
      | false =>
        have R := Lib.hid (RB.out (by rw [RV]; exact hok))
        have d : decide (mn < 0) = true := by rw [hmd, hok]; rfl
        obtain ⟨cb, fb, zb⟩ := HT.out.b
        clear hmd hok RV
        go_wp2
        refine bodyPost_ret (v := .tuple #[ruv noRu, .bool false]) (by simp [results, Try.results11, go_sem, noRu, cb]) rfl ⟨by rw [R.out], ?_⟩
        exact below_puts (by omega) [.int .i64 0, .int .i64 0, .int .i64 0, .int .i64 0, .int .i64 0, .int .i64 0] 0 wn HT.out.low
      | true =>
        have R := Lib.hid (RR.out (by rw [RV]; exact hok))
        have d : decide (mn < 0) = false := by rw [hmd, hok]; rfl
        have RV := Lib.hid RV
        obtain ⟨cb, fb, zb⟩ := HT.out.b
        clear hmd hok
        go_wp2
        refine bodyPost_ret (v := .tuple #[ruv ⟨4, rh, 0, ra, rb, 0⟩, .bool true]) (by simp [results, Try.results11, go_sem, cb]) rfl ⟨by rw [R.out, RV.out], ?_⟩
        exact below_puts (by omega) [.int .i64 4, .int .i64 rh, .int .i64 0, .int .i64 ra, .int .i64 rb, .int .i64 0] 0 wn HT.out.low
    have hr := HR.out
    rw [rightS0 k _ _ _ _ _ n1 n2 n3 hk] at hr
    cases hr
theorem table_Rule {t ba bb : Nat} {a b : List ByteArray} {w : World} (h : TblAt w t ba bb a b) (s : St) (hs : s.le 4294967) :
    Calls Try.prog 11 #[.pointer (some ⟨t, 0, none⟩), sv s] w fun e w' => e = .returned (.tuple #[ruv (ruleN a b s).1, .bool (ruleN a b s).2]) ∧ Below w.heap.size w w' :=
  table_RuleG (some ⟨t, 0, none⟩) a b w h.sa h.sb h.na h.nb (fun r _ hb => table_Role (h.below hb) r)
    (fun W hb => (table_Prins (h.below hb)).mono (fun _ _ ⟨h1, h2⟩ => ⟨ba, h1, by rw [h2]; exact h.ta.below hb, by rw [h2]; exact Below.refl _ _⟩))
    (fun W hb => (table_Links (h.below hb)).mono (fun _ _ ⟨h1, h2⟩ => ⟨bb, h1, by rw [h2]; exact h.tb.below hb, by rw [h2]; exact Below.refl _ _⟩)) s hs
end Go.Proofs.Ythickpocfplcoaa
namespace Go.Proofs.Ythickpocfplcoaa
open Go.RowKit Go.Shelf

def inR (n : Nat) (i : Int) : Bool := decide (0 ≤ i ∧ i < n)
/-- Which rules may be. -/
def okRu (p l : Nat) (r : Ru) : Bool :=
  decide (p ≤ 1000) && decide (l ≤ 1000) && inR (p * l) r.h &&
  (if r.k = 1 then decide (r.a = 0 ∧ r.b = 0 ∧ r.via = 0) && inR p r.who
   else if r.k = 2 then decide (r.who = 0 ∧ r.b = 0 ∧ r.via = 0) && inR (p * l) r.a
   else if r.k = 3 then decide (r.who = 0 ∧ r.b = 0) && inR (p * l) r.a && inR l r.via
   else if r.k = 4 then decide (r.who = 0 ∧ r.via = 0) && inR (p * l) r.a && inR (p * l) r.b
   else false)
/-- The statement of a rule, not yet normal. -/
def stmtR (a b : List ByteArray) (r : Ru) : St := ⟨r.k, roleAt a b r.h, if r.k = 1 then atB a r.who else emp, if r.k = 1 then noR else roleAt a b r.a, if r.k = 4 then roleAt a b r.b else noR, if r.k = 3 then atB b r.via else emp⟩
def stmtN (a b : List ByteArray) (r : Ru) : St × Bool := if okRu a.length b.length r = true then (normalS (stmtR a b r), true) else (noS, false)
theorem stmtN_ok {a b : List ByteArray} {r : Ru} (h : okRu a.length b.length r = true) : stmtN a b r = (normalS (stmtR a b r), true) := if_pos h
theorem stmtN_no {a b : List ByteArray} {r : Ru} (h : okRu a.length b.length r = false) : stmtN a b r = (noS, false) := if_neg (by rw [h]; exact Bool.false_ne_true)
theorem inR_iff {n : Nat} {i : Int} : inR n i = true ↔ ∃ k : Nat, i = k ∧ k < n := by
  unfold inR
  rw [decide_eq_true_iff]
  constructor
  · rintro ⟨h1, h2⟩
    obtain ⟨k, rfl⟩ := Int.eq_ofNat_of_zero_le h1
    exact ⟨k, rfl, by omega⟩
  · rintro ⟨k, rfl, h⟩
    exact ⟨by omega, by omega⟩
theorem place_yes {l : List ByteArray} {s : ByteArray} (h : 0 ≤ placeB l s) : ∃ k : Nat, placeB l s = k ∧ ∃ hk : k < l.length, l[k] = s := by
  unfold placeB at h ⊢
  by_cases hs : hasB l s = true
  · rw [if_pos hs]
    exact ⟨idxB l s, rfl, idxB_lt l s ((hasB_mem l s).1 hs), idxB_get l s ((hasB_mem l s).1 hs)⟩
  · rw [if_neg hs] at h; omega
theorem roleN_yes {a b : List ByteArray} {r : Rl} (h : 0 ≤ roleN a b r) : ∃ i j : Nat, ∃ (hi : i < a.length) (hj : j < b.length), a[i] = r.o ∧ b[j] = r.n ∧ roleN a b r = (i : Int) * (b.length : Int) + (j : Int) := by
  unfold roleN at h ⊢
  by_cases hc : placeB a r.o < 0 ∨ placeB b r.n < 0
  · rw [if_pos hc] at h; omega
  · rw [if_neg hc]
    obtain ⟨i, e1, hi, g1⟩ := place_yes (l := a) (s := r.o) (by omega)
    obtain ⟨j, e2, hj, g2⟩ := place_yes (l := b) (s := r.n) (by omega)
    exact ⟨i, j, hi, hj, g1, g2, by rw [e1, e2]⟩
theorem roleN_at {a b : List ByteArray} {r : Rl} (h : 0 ≤ roleN a b r) : roleAt a b (roleN a b r) = r ∧ inR (a.length * b.length) (roleN a b r) = true := by
  obtain ⟨i, j, hi, hj, g1, g2, e⟩ := roleN_yes h
  refine ⟨by rw [e, roleAt_ij hi hj, g1, g2], ?_⟩
  rw [e, inR_iff]
  have : i * b.length + b.length ≤ a.length * b.length := by rw [← Nat.succ_mul]; exact Nat.mul_le_mul_right _ hi
  exact ⟨i * b.length + j, by rw [Int.natCast_add, Int.natCast_mul], by omega⟩
theorem roleAt_of {a b : List ByteArray} {x : Int} (h : inR (a.length * b.length) x = true) : ∃ i j : Nat, ∃ (hi : i < a.length) (hj : j < b.length), x = (i : Int) * (b.length : Int) + (j : Int) ∧ roleAt a b x = ⟨a[i], b[j]⟩ := by
  obtain ⟨k, rfl, hk⟩ := inR_iff.1 h
  have h0 : 0 < b.length := Nat.pos_of_ne_zero (fun e => by rw [e] at hk; omega)
  have hi : k / b.length < a.length := Nat.div_lt_of_lt_mul (by rw [Nat.mul_comm]; exact hk)
  have hj : k % b.length < b.length := Nat.mod_lt _ h0
  have e : (k : Int) = ((k / b.length : Nat) : Int) * (b.length : Int) + ((k % b.length : Nat) : Int) := by
    rw [← Int.natCast_mul, ← Int.natCast_add, Nat.mul_comm, Nat.div_add_mod]
  exact ⟨_, _, hi, hj, e, by rw [e]; exact roleAt_ij hi hj⟩
theorem roleN_of {a b : List ByteArray} (ha : AscB a) (hb : AscB b) {i j : Nat} (hi : i < a.length) (hj : j < b.length) : roleN a b ⟨a[i], b[j]⟩ = (i : Int) * (b.length : Int) + (j : Int) := by
  unfold roleN
  rw [place_asc ha hi rfl, place_asc hb hj rfl, if_neg (by omega)]
theorem roleAt_N {a b : List ByteArray} (ha : AscB a) (hb : AscB b) {x : Int} (h : inR (a.length * b.length) x = true) : roleN a b (roleAt a b x) = x := by
  obtain ⟨i, j, hi, hj, e, e2⟩ := roleAt_of h
  rw [e2, roleN_of ha hb hi hj, ← e]
theorem inR_ge {n : Nat} {x : Int} (h : inR n x = true) : 0 ≤ x := by unfold inR at h; rw [decide_eq_true_iff] at h; exact h.1
theorem isP_no (x : ByteArray) (p q : Nat) : x = emp → isP p q (bl x) = false := by rintro rfl; rfl

/-- The statement of a statement's rule is that statement. -/
theorem stmt_rule {a b : List ByteArray} {s : St} (na : a.length ≤ 1000) (nb : b.length ≤ 1000) (h : (ruleN a b s).2 = true) : stmtN a b (ruleN a b s).1 = (s, true) := by
  unfold ruleN at h ⊢
  by_cases hc : rightS s = true ∧ ruleOk (ruleR a b s) = true
  · rw [if_pos hc] at h ⊢
    clear h
    obtain ⟨hr, hok⟩ := hc
    unfold ruleOk at hok
    rw [decide_eq_true_iff] at hok
    obtain ⟨o1, o2, o3, o4, o5⟩ := hok
    have ok0 : okRu a.length b.length (ruleR a b s) = true ∧ normalS (stmtR a b (ruleR a b s)) = s := by
      obtain ⟨k, h, who, x, y, via⟩ := s
      simp only [ruleR] at o1 o2 o3 o4 o5
      obtain ⟨g1, g2⟩ := roleN_at o1
      unfold okRu
      rw [decide_eq_true na, decide_eq_true nb]
      simp only [ruleR, g2, Bool.true_and, stmtR, g1]
      by_cases k1 : k = 1
      · subst k1
        simp only [if_true, if_pos] at o2
        rw [rightS1] at hr
        simp only [Bool.and_eq_true, eqSt, decide_eq_true_iff, St.mk.injEq] at hr
        obtain ⟨⟨r1, r2⟩, _, _, _, rfl, rfl, rfl⟩ := hr
        obtain ⟨i, e1, hi, g⟩ := place_yes o2
        refine ⟨by simp; rw [e1, inR_iff]; exact ⟨i, rfl, hi⟩, ?_⟩
        simp [normalS, e1, atB_get hi, g]
      · by_cases k2 : k = 2
        · subst k2
          simp at o3
          obtain ⟨g3, g4⟩ := roleN_at o3
          rw [rightS2] at hr
          simp only [Bool.and_eq_true, eqSt, decide_eq_true_iff, St.mk.injEq] at hr
          obtain ⟨_, _, _, rfl, _, rfl, rfl⟩ := hr
          refine ⟨by simp [g4], ?_⟩
          simp [normalS, g3]
        · by_cases k3 : k = 3
          · subst k3
            simp at o3 o5
            obtain ⟨g3, g4⟩ := roleN_at o3
            rw [rightS3] at hr
            simp only [Bool.and_eq_true, eqSt, decide_eq_true_iff, St.mk.injEq] at hr
            obtain ⟨_, _, _, rfl, _, rfl, _⟩ := hr
            obtain ⟨i, e1, hi, g⟩ := place_yes o5
            refine ⟨by simp [g4]; rw [e1, inR_iff]; exact ⟨i, rfl, hi⟩, ?_⟩
            simp [normalS, g3, e1, atB_get hi, g]
          · by_cases k4 : k = 4
            · subst k4
              simp at o3 o4
              obtain ⟨g3, g4⟩ := roleN_at o3
              obtain ⟨g5, g6⟩ := roleN_at o4
              rw [rightS4] at hr
              simp only [Bool.and_eq_true, eqSt, decide_eq_true_iff, St.mk.injEq, Bool.not_eq_true'] at hr
              obtain ⟨⟨_, hl⟩, _, _, rfl, _, _, rfl⟩ := hr
              refine ⟨by simp [g4, g6], ?_⟩
              simp [normalS, g3, g5, hl]
            · rw [rightS0 k _ _ _ _ _ k1 k2 k3 k4] at hr
              cases hr
    rw [stmtN_ok ok0.1, ok0.2]
  · rw [if_neg hc] at h; cases h
/-- A rule may have its two roles turned round. -/
def turned (y r : Ru) : Prop := y = r ∨ (r.k = 4 ∧ y.a = r.b ∧ y.b = r.a ∧ y.h = r.h)
theorem rule_stmt {a b : List ByteArray} {r : Ru} (ha : AscB a) (hb : AscB b) (pa : ∀ x ∈ a, isP 65 90 (bl x) = true) (pb : ∀ x ∈ b, isP 97 122 (bl x) = true) (h : okRu a.length b.length r = true) :
    rightS (normalS (stmtR a b r)) = true ∧ ∃ y, ruleN a b (normalS (stmtR a b r)) = (y, true) ∧ turned y r := by
  have RI : ∀ x, inR (a.length * b.length) x = true → isRole (roleAt a b x) = true := fun x hx => by
    obtain ⟨i, j, hi, hj, _, e⟩ := roleAt_of hx
    rw [e]
    simp only [isRole, Bool.and_eq_true]
    exact ⟨pa _ (List.getElem_mem hi), pb _ (List.getElem_mem hj)⟩
  have RN : ∀ x, inR (a.length * b.length) x = true → roleN a b (roleAt a b x) = x := fun x hx => roleAt_N ha hb hx
  obtain ⟨k, rh, who, ra, rb, via⟩ := r
  unfold okRu at h
  simp only [Bool.and_eq_true] at h
  obtain ⟨⟨_, hh⟩, h⟩ := h
  have g0 := RI _ hh
  have n0 := RN _ hh
  have p0 := inR_ge hh
  unfold stmtR
  generalize roleAt a b rh = xh at g0 n0
  by_cases k1 : k = 1
  · subst k1
    simp only [if_true, Bool.and_eq_true, decide_eq_true_iff] at h
    obtain ⟨⟨rfl, rfl, rfl⟩, hw⟩ := h
    obtain ⟨i, rfl, hi⟩ := inR_iff.1 hw
    simp only [if_true, if_pos]
    have e1 : normalS ⟨1, xh, atB a (i : Int), noR, if (1 : Int) = 4 then roleAt a b 0 else noR, if (1 : Int) = 3 then atB b 0 else emp⟩ = ⟨1, xh, a[i], noR, noR, emp⟩ := by simp [normalS, atB_get hi]
    rw [e1]
    have hr : rightS ⟨1, xh, a[i], noR, noR, emp⟩ = true := by rw [rightS1, g0, pa _ (List.getElem_mem hi)]; simp [eqSt]
    have rr : ruleR a b ⟨1, xh, a[i], noR, noR, emp⟩ = ⟨1, rh, i, 0, 0, 0⟩ := by simp [ruleR, n0, place_asc ha hi rfl]
    exact ⟨hr, _, by rw [ruleN_ok hr (by rw [rr]; simp [ruleOk]; omega), rr], .inl rfl⟩
  · by_cases k2 : k = 2
    · subst k2
      simp at h
      obtain ⟨⟨rfl, rfl, rfl⟩, hw⟩ := h
      have g1 := RI _ hw
      have n1 := RN _ hw
      have p1 := inR_ge hw
      generalize roleAt a b ra = xa at g1 n1
      have e1 : normalS ⟨2, xh, if (2 : Int) = 1 then atB a 0 else emp, if (2 : Int) = 1 then noR else xa, if (2 : Int) = 4 then roleAt a b 0 else noR, if (2 : Int) = 3 then atB b 0 else emp⟩ = ⟨2, xh, emp, xa, noR, emp⟩ := by simp [normalS]
      rw [e1]
      have hr : rightS ⟨2, xh, emp, xa, noR, emp⟩ = true := by rw [rightS2, g0, g1]; simp [eqSt]
      have rr : ruleR a b ⟨2, xh, emp, xa, noR, emp⟩ = ⟨2, rh, 0, ra, 0, 0⟩ := by simp [ruleR, n0, n1]
      exact ⟨hr, _, by rw [ruleN_ok hr (by rw [rr]; simp [ruleOk]; omega), rr], .inl rfl⟩
    · by_cases k3 : k = 3
      · subst k3
        simp at h
        obtain ⟨⟨⟨rfl, rfl⟩, hw⟩, hv⟩ := h
        obtain ⟨i, rfl, hi⟩ := inR_iff.1 hv
        have g1 := RI _ hw
        have n1 := RN _ hw
        have p1 := inR_ge hw
        generalize roleAt a b ra = xa at g1 n1
        have e1 : normalS ⟨3, xh, if (3 : Int) = 1 then atB a 0 else emp, if (3 : Int) = 1 then noR else xa, if (3 : Int) = 4 then roleAt a b 0 else noR, if (3 : Int) = 3 then atB b (i : Int) else emp⟩ = ⟨3, xh, emp, xa, noR, b[i]⟩ := by simp [normalS, atB_get hi]
        rw [e1]
        have hr : rightS ⟨3, xh, emp, xa, noR, b[i]⟩ = true := by rw [rightS3, g0, g1, pb _ (List.getElem_mem hi)]; simp [eqSt]
        have rr : ruleR a b ⟨3, xh, emp, xa, noR, b[i]⟩ = ⟨3, rh, 0, ra, 0, i⟩ := by simp [ruleR, n0, n1, place_asc hb hi rfl]
        exact ⟨hr, _, by rw [ruleN_ok hr (by rw [rr]; simp [ruleOk]; omega), rr], .inl rfl⟩
      · by_cases k4 : k = 4
        · subst k4
          simp at h
          obtain ⟨⟨⟨rfl, rfl⟩, hw⟩, hv⟩ := h
          have g1 := RI _ hw
          have n1 := RN _ hw
          have p1 := inR_ge hw
          have g2 := RI _ hv
          have n2 := RN _ hv
          have p2 := inR_ge hv
          generalize roleAt a b ra = xa at g1 n1
          generalize roleAt a b rb = xb at g2 n2
          have e1 : (⟨4, xh, if (4 : Int) = 1 then atB a 0 else emp, if (4 : Int) = 1 then noR else xa, if (4 : Int) = 4 then xb else noR, if (4 : Int) = 3 then atB b 0 else emp⟩ : St) = ⟨4, xh, emp, xa, xb, emp⟩ := by simp
          rw [e1]
          cases hl : lessR xb xa with
          | false =>
            have e2 : normalS ⟨4, xh, emp, xa, xb, emp⟩ = ⟨4, xh, emp, xa, xb, emp⟩ := by simp [normalS, hl]
            rw [e2]
            have hr : rightS ⟨4, xh, emp, xa, xb, emp⟩ = true := by rw [rightS4, g0, g1, g2, hl]; simp [eqSt]
            have rr : ruleR a b ⟨4, xh, emp, xa, xb, emp⟩ = ⟨4, rh, 0, ra, rb, 0⟩ := by simp [ruleR, n0, n1, n2]
            exact ⟨hr, _, by rw [ruleN_ok hr (by rw [rr]; simp [ruleOk]; omega), rr], .inl rfl⟩
          | true =>
            have e2 : normalS ⟨4, xh, emp, xa, xb, emp⟩ = ⟨4, xh, emp, xb, xa, emp⟩ := by simp [normalS, hl]
            rw [e2]
            have hr : rightS ⟨4, xh, emp, xb, xa, emp⟩ = true := by rw [rightS4, g0, g1, g2, less_no hl]; simp [eqSt]
            have rr : ruleR a b ⟨4, xh, emp, xb, xa, emp⟩ = ⟨4, rh, 0, rb, ra, 0⟩ := by simp [ruleR, n0, n1, n2]
            exact ⟨hr, ⟨4, rh, 0, rb, ra, 0⟩, by rw [ruleN_ok hr (by rw [rr]; simp [ruleOk]; omega), rr], .inr ⟨rfl, rfl, rfl, rfl⟩⟩
        · simp [k1, k2, k3, k4] at h
end Go.Proofs.Ythickpocfplcoaa
