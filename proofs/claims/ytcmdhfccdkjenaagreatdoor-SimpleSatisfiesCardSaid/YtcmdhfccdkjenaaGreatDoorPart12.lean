/- simple.Satisfies, whatever tells the members (printed by gen_simsat.py). slices.IndexFunc and slices.DeleteFunc at rows of statements. low.Minimal; crupperref11.Minimal. crupperref11.follows. Plain laws: the bits of a word, and rows of numbers in order. Worlds that differ in named blocks alone; blocks whose cells a function tells. A region that draws its order and ends in a store into a cell that it loads: what is loaded is held up to the last operation, which waits for all others. -/
import Derived.Test.YtcmdhfccdkjenaaGreatDoorPart8
import Derived.Test.YtcmdhfccdkjenaaGreatDoorPart11
import Derived.Test.YtcmdhfccdkjenaaGreatDoorPart5
import Derived.Test.YtcmdhfccdkjenaaGreatDoorPart3
import Derived.Test.YtcmdhfccdkjenaaGreatDoorPart7
import Derived.Lib.TrailingZeros
import Derived.Laws.Bits64b
import Derived.WalkSmall
import Derived.Test.YtcmdhfccdkjenaaGreatDoorPart6
namespace Go.Proofs.YtcmdhfccdkjenaaGreatDoor
open Go.RowKit Go.Shelf

/-- Is a query satisfied, by who is in which role? -/
def satQ (M : Rl → List ByteArray) (q : Qv) (us : List ByteArray) : Bool :=
  if q.k = 1 ∨ q.k = 2 then insideB us (M q.a) else if q.k = 3 then insideB (M q.a) us else if q.k = 4 then decide ((M q.a).length = 0) else if q.k = 5 then !((M q.a).any fun s => hasB (M q.b) s) else if q.k = 6 then insideB (M q.a) (M q.b) else false
set_option maxHeartbeats 1000000 in
theorem sim_Sat1 (c : Nat) (vb : Value) (b : List ByteArray) (s : ByteArray) (w : World) (hc : w.cell? ⟨c, 0, none⟩ = some vb) (hb : SlA w 1 vb b.length (strs b)) :
    Calls Tryz.prog 107 #[.string s, .pointer (some ⟨c, 0, none⟩)] w fun e w' => e = .returned (.bool (hasB b s)) ∧ w' = w := by
  have H := Lib.hid (str_Contains vb b s w hb)
  generalize hasB b s = r at *
  obtain ⟨bo, bc, rfl⟩ := hb.form
  clear hb
  go_enter Tryz.func107, Tryz.ntmps107
  go_wp2_with fail
  refine H.out.mono ?_
  rintro e w1 ⟨rfl, rfl⟩
  go_wp2
  go_ret
  exact ⟨rfl, rfl⟩
set_option maxRecDepth 100000 in
set_option maxHeartbeats 8000000 in
theorem sim_Satisfies (f : FuncId) (bs cb : Array Value) (eg : ∀ args w, (callFunc f args).run Tryz.prog w = .ok (.enter f args) w) (M : Rl → List ByteArray) (q : Qv) (us : List ByteArray) (w : World) (hu : SlA w 1 q.w us.length (strs us))
    (hM : ∀ r W, Below w.heap.size w W → Calls Tryz.prog f (bs.push (rv r) ++ cb) W fun e w' => ∃ a c, e = .returned (.slice a (M r).length c) ∧ SlA w' 1 (.slice a (M r).length c) (M r).length (strs (M r)) ∧ Below W.heap.size W w') :
    Calls Tryz.prog 38 #[.func (.func f) bs cb, qv q] w fun e w' => e = .returned (.bool (satQ M q us)) ∧ Below w.heap.size w w' := by
  have HM := Lib.hid hM
  have HU := Lib.hid hu
  have RS := Lib.hid (show satQ M q us = if q.k = 1 ∨ q.k = 2 then insideB us (M q.a) else if q.k = 3 then insideB (M q.a) us else if q.k = 4 then decide ((M q.a).length = 0) else if q.k = 5 then !((M q.a).any fun s => hasB (M q.b) s) else if q.k = 6 then insideB (M q.a) (M q.b) else false from rfl)
  generalize satQ M q us = res at RS ⊢
  obtain ⟨xk, ⟨x1, x2⟩, ⟨x3, x4⟩, wv⟩ := q
  dsimp only at RS HU hu
  obtain ⟨wo, wc, rfl⟩ := hu.form
  have HT := Lib.hid (show OneAt w #[.int .i64 xk, .string x1, .string x2, .string x3, .string x4, .slice wo us.length wc] (w.alloc (.cells #[.int .i64 xk, .string x1, .string x2, .string x3, .string x4, .slice wo us.length wc] 45)) from ⟨Blk.new w _ _, (Below.refl _ _).alloc (Nat.le_refl _) _⟩)
  clear hu hM
  go_enter Tryz.func38, Tryz.ntmps38
  by_cases h1 : xk = 1
  · subst h1
    have RES : Hid (res = (insideB us (M ⟨x1, x2⟩))) := Lib.hid (RS.out.trans (by rw [if_pos (.inl rfl)]))
    clear RS
    have HT0 := HT
    go_wp2_with fail
    refine wp_region_held_drew (S := (fun W => ∀ o, W.cell? ⟨w.heap.size, o, none⟩ = (#[.int .i64 1, .string x1, .string x2, .string x3, .string x4, .slice wo us.length wc] : Array Value)[o]?)) (by kernel_rfl) HT0.out.drew.a.1 (fun hHeld => ?_)
    have HT := HT0.out.drew
    obtain ⟨wk, hwk⟩ : ∃ W, W = (w.alloc (.cells #[.int .i64 1, .string x1, .string x2, .string x3, .string x4, .slice wo us.length wc] 45)).drew := ⟨_, rfl⟩
    rw [← hwk] at HT hHeld ⊢
    clear hwk
    (refine held_yes (v := ?_) 0 rfl (by kernel_rfl) (by kernel_rfl) (by kernel_rfl) (fun _ _ _ h => h) (by rfl) (by assumption) ?_ ?_; rotate_left; (focus ((intro w hSw); (try dsimp only at hSw); go_simp; (try with_reducible rfl))); (try simp only [Act.put, List.setIfInBounds_toArray, List.set_cons_zero, List.set_cons_succ])); (refine held_yes (v := ?_) 1 rfl (by kernel_rfl) (by kernel_rfl) (by kernel_rfl) (fun _ _ _ h => h) (by rfl) (by assumption) ?_ ?_; rotate_left; (focus ((intro w hSw); (try dsimp only at hSw); go_simp; (try with_reducible rfl))); (try simp only [Act.put, List.setIfInBounds_toArray, List.set_cons_zero, List.set_cons_succ])); (refine held_yes (v := ?_) 2 rfl (by kernel_rfl) (by kernel_rfl) (by kernel_rfl) (fun _ _ _ h => h) (by rfl) (by assumption) ?_ ?_; rotate_left; (focus ((intro w hSw); (try dsimp only at hSw); go_simp; (try with_reducible rfl))); (try simp only [Act.put, List.setIfInBounds_toArray, List.set_cons_zero, List.set_cons_succ])); (refine held_yes (v := ?_) 3 rfl (by kernel_rfl) (by kernel_rfl) (by kernel_rfl) (fun _ _ _ h => h) (by rfl) (by assumption) ?_ ?_; rotate_left; (focus ((intro w hSw); (try dsimp only at hSw); go_simp; (try with_reducible rfl))); (try simp only [Act.put, List.setIfInBounds_toArray, List.set_cons_zero, List.set_cons_succ])); (refine held_yes (v := ?_) 4 rfl (by kernel_rfl) (by kernel_rfl) (by kernel_rfl) (fun _ _ _ h => h) (by rfl) (by assumption) ?_ ?_; rotate_left; (focus ((intro w hSw); (try dsimp only at hSw); go_simp; (try with_reducible rfl))); (try simp only [Act.put, List.setIfInBounds_toArray, List.set_cons_zero, List.set_cons_succ]))
    (refine held_call 5 rfl (by kernel_rfl) (fun K hK => ?_); go_simp)
    refine (HM.out ⟨x1, x2⟩ _ HT.low).mono ?_; rintro e wz5 ⟨ma, mc, rfl, hm, hbq⟩
    have HT := HT.later hbq
    have HM1 := Lib.hid hm
    clear hm hbq
    (refine hK.out _ _ (HT.a.1) (fun hHeld => ?_); clear hK K; (try simp only [Act.put, List.setIfInBounds_toArray, List.set_cons_zero, List.set_cons_succ]))
    (refine held_call 6 rfl (by kernel_rfl) (fun K hK => ?_); go_simp)
    go_at_call 105; refine (sim_inside _ _ (us) (M ⟨x1, x2⟩) _ (HU.out.below HT.low) HM1.out).mono ?_; rintro e wz6 ⟨rfl, hbq⟩
    have HT := HT.later hbq
    have HM1 := Lib.hid (HM1.out.below hbq)
    clear hbq
    (refine hK.out _ _ (HT.a.1) (fun hHeld => ?_); clear hK K; (try simp only [Act.put, List.setIfInBounds_toArray, List.set_cons_zero, List.set_cons_succ]))
    (refine held_yes (v := ?_) 7 rfl (by kernel_rfl) (by kernel_rfl) (by kernel_rfl) (fun _ _ _ h => h) (by rfl) (by assumption) ?_ ?_; rotate_left; (focus ((intro w hSw); (try dsimp only at hSw); go_simp; (try with_reducible rfl))); (try simp only [Act.put, List.setIfInBounds_toArray, List.set_cons_zero, List.set_cons_succ]))
    refine wpAnyH_done (by kernel_rfl) ?_ _
    have HTr := Lib.hid HT
    clear HT
    go_wp2_with fail
    go_ret
    exact ⟨ret_b RES.out.symm, HTr.out.low⟩
  by_cases h2 : xk = 2
  · subst h2
    have RES : Hid (res = (insideB us (M ⟨x1, x2⟩))) := Lib.hid (RS.out.trans (by rw [if_pos (.inr rfl)]))
    clear RS
    have HT0 := HT
    go_wp2_with fail
    refine wp_region_held_drew (S := (fun W => ∀ o, W.cell? ⟨w.heap.size, o, none⟩ = (#[.int .i64 2, .string x1, .string x2, .string x3, .string x4, .slice wo us.length wc] : Array Value)[o]?)) (by kernel_rfl) HT0.out.drew.a.1 (fun hHeld => ?_)
    have HT := HT0.out.drew
    obtain ⟨wk, hwk⟩ : ∃ W, W = (w.alloc (.cells #[.int .i64 2, .string x1, .string x2, .string x3, .string x4, .slice wo us.length wc] 45)).drew := ⟨_, rfl⟩
    rw [← hwk] at HT hHeld ⊢
    clear hwk
    (refine held_yes (v := ?_) 0 rfl (by kernel_rfl) (by kernel_rfl) (by kernel_rfl) (fun _ _ _ h => h) (by rfl) (by assumption) ?_ ?_; rotate_left; (focus ((intro w hSw); (try dsimp only at hSw); go_simp; (try with_reducible rfl))); (try simp only [Act.put, List.setIfInBounds_toArray, List.set_cons_zero, List.set_cons_succ])); (refine held_yes (v := ?_) 1 rfl (by kernel_rfl) (by kernel_rfl) (by kernel_rfl) (fun _ _ _ h => h) (by rfl) (by assumption) ?_ ?_; rotate_left; (focus ((intro w hSw); (try dsimp only at hSw); go_simp; (try with_reducible rfl))); (try simp only [Act.put, List.setIfInBounds_toArray, List.set_cons_zero, List.set_cons_succ])); (refine held_yes (v := ?_) 2 rfl (by kernel_rfl) (by kernel_rfl) (by kernel_rfl) (fun _ _ _ h => h) (by rfl) (by assumption) ?_ ?_; rotate_left; (focus ((intro w hSw); (try dsimp only at hSw); go_simp; (try with_reducible rfl))); (try simp only [Act.put, List.setIfInBounds_toArray, List.set_cons_zero, List.set_cons_succ])); (refine held_yes (v := ?_) 3 rfl (by kernel_rfl) (by kernel_rfl) (by kernel_rfl) (fun _ _ _ h => h) (by rfl) (by assumption) ?_ ?_; rotate_left; (focus ((intro w hSw); (try dsimp only at hSw); go_simp; (try with_reducible rfl))); (try simp only [Act.put, List.setIfInBounds_toArray, List.set_cons_zero, List.set_cons_succ])); (refine held_yes (v := ?_) 4 rfl (by kernel_rfl) (by kernel_rfl) (by kernel_rfl) (fun _ _ _ h => h) (by rfl) (by assumption) ?_ ?_; rotate_left; (focus ((intro w hSw); (try dsimp only at hSw); go_simp; (try with_reducible rfl))); (try simp only [Act.put, List.setIfInBounds_toArray, List.set_cons_zero, List.set_cons_succ]))
    (refine held_call 5 rfl (by kernel_rfl) (fun K hK => ?_); go_simp)
    refine (HM.out ⟨x1, x2⟩ _ HT.low).mono ?_; rintro e wz5 ⟨ma, mc, rfl, hm, hbq⟩
    have HT := HT.later hbq
    have HM1 := Lib.hid hm
    clear hm hbq
    (refine hK.out _ _ (HT.a.1) (fun hHeld => ?_); clear hK K; (try simp only [Act.put, List.setIfInBounds_toArray, List.set_cons_zero, List.set_cons_succ]))
    (refine held_call 6 rfl (by kernel_rfl) (fun K hK => ?_); go_simp)
    go_at_call 105; refine (sim_inside _ _ (us) (M ⟨x1, x2⟩) _ (HU.out.below HT.low) HM1.out).mono ?_; rintro e wz6 ⟨rfl, hbq⟩
    have HT := HT.later hbq
    have HM1 := Lib.hid (HM1.out.below hbq)
    clear hbq
    (refine hK.out _ _ (HT.a.1) (fun hHeld => ?_); clear hK K; (try simp only [Act.put, List.setIfInBounds_toArray, List.set_cons_zero, List.set_cons_succ]))
    (refine held_yes (v := ?_) 7 rfl (by kernel_rfl) (by kernel_rfl) (by kernel_rfl) (fun _ _ _ h => h) (by rfl) (by assumption) ?_ ?_; rotate_left; (focus ((intro w hSw); (try dsimp only at hSw); go_simp; (try with_reducible rfl))); (try simp only [Act.put, List.setIfInBounds_toArray, List.set_cons_zero, List.set_cons_succ]))
    refine wpAnyH_done (by kernel_rfl) ?_ _
    have HTr := Lib.hid HT
    clear HT
    go_wp2_with fail
    go_ret
    exact ⟨ret_b RES.out.symm, HTr.out.low⟩
  by_cases h3 : xk = 3
  · subst h3
    have RES : Hid (res = (insideB (M ⟨x1, x2⟩) us)) := Lib.hid (RS.out.trans (by rfl))
    clear RS
    have HT0 := HT
    go_wp2_with fail
    refine wp_region_held_drew (S := (fun W => ∀ o, W.cell? ⟨w.heap.size, o, none⟩ = (#[.int .i64 3, .string x1, .string x2, .string x3, .string x4, .slice wo us.length wc] : Array Value)[o]?)) (by kernel_rfl) HT0.out.drew.a.1 (fun hHeld => ?_)
    have HT := HT0.out.drew
    obtain ⟨wk, hwk⟩ : ∃ W, W = (w.alloc (.cells #[.int .i64 3, .string x1, .string x2, .string x3, .string x4, .slice wo us.length wc] 45)).drew := ⟨_, rfl⟩
    rw [← hwk] at HT hHeld ⊢
    clear hwk
    (refine held_yes (v := ?_) 0 rfl (by kernel_rfl) (by kernel_rfl) (by kernel_rfl) (fun _ _ _ h => h) (by rfl) (by assumption) ?_ ?_; rotate_left; (focus ((intro w hSw); (try dsimp only at hSw); go_simp; (try with_reducible rfl))); (try simp only [Act.put, List.setIfInBounds_toArray, List.set_cons_zero, List.set_cons_succ])); (refine held_yes (v := ?_) 1 rfl (by kernel_rfl) (by kernel_rfl) (by kernel_rfl) (fun _ _ _ h => h) (by rfl) (by assumption) ?_ ?_; rotate_left; (focus ((intro w hSw); (try dsimp only at hSw); go_simp; (try with_reducible rfl))); (try simp only [Act.put, List.setIfInBounds_toArray, List.set_cons_zero, List.set_cons_succ])); (refine held_yes (v := ?_) 2 rfl (by kernel_rfl) (by kernel_rfl) (by kernel_rfl) (fun _ _ _ h => h) (by rfl) (by assumption) ?_ ?_; rotate_left; (focus ((intro w hSw); (try dsimp only at hSw); go_simp; (try with_reducible rfl))); (try simp only [Act.put, List.setIfInBounds_toArray, List.set_cons_zero, List.set_cons_succ])); (refine held_yes (v := ?_) 4 rfl (by kernel_rfl) (by kernel_rfl) (by kernel_rfl) (fun _ _ _ h => h) (by rfl) (by assumption) ?_ ?_; rotate_left; (focus ((intro w hSw); (try dsimp only at hSw); go_simp; (try with_reducible rfl))); (try simp only [Act.put, List.setIfInBounds_toArray, List.set_cons_zero, List.set_cons_succ])); (refine held_yes (v := ?_) 5 rfl (by kernel_rfl) (by kernel_rfl) (by kernel_rfl) (fun _ _ _ h => h) (by rfl) (by assumption) ?_ ?_; rotate_left; (focus ((intro w hSw); (try dsimp only at hSw); go_simp; (try with_reducible rfl))); (try simp only [Act.put, List.setIfInBounds_toArray, List.set_cons_zero, List.set_cons_succ]))
    (refine held_call 3 rfl (by kernel_rfl) (fun K hK => ?_); go_simp)
    refine (HM.out ⟨x1, x2⟩ _ HT.low).mono ?_; rintro e wz3 ⟨ma, mc, rfl, hm, hbq⟩
    have HT := HT.later hbq
    have HM1 := Lib.hid hm
    clear hm hbq
    (refine hK.out _ _ (HT.a.1) (fun hHeld => ?_); clear hK K; (try simp only [Act.put, List.setIfInBounds_toArray, List.set_cons_zero, List.set_cons_succ]))
    (refine held_call 6 rfl (by kernel_rfl) (fun K hK => ?_); go_simp)
    go_at_call 105; refine (sim_inside _ _ (M ⟨x1, x2⟩) (us) _ HM1.out (HU.out.below HT.low)).mono ?_; rintro e wz6 ⟨rfl, hbq⟩
    have HT := HT.later hbq
    have HM1 := Lib.hid (HM1.out.below hbq)
    clear hbq
    (refine hK.out _ _ (HT.a.1) (fun hHeld => ?_); clear hK K; (try simp only [Act.put, List.setIfInBounds_toArray, List.set_cons_zero, List.set_cons_succ]))
    (refine held_yes (v := ?_) 7 rfl (by kernel_rfl) (by kernel_rfl) (by kernel_rfl) (fun _ _ _ h => h) (by rfl) (by assumption) ?_ ?_; rotate_left; (focus ((intro w hSw); (try dsimp only at hSw); go_simp; (try with_reducible rfl))); (try simp only [Act.put, List.setIfInBounds_toArray, List.set_cons_zero, List.set_cons_succ]))
    refine wpAnyH_done (by kernel_rfl) ?_ _
    have HTr := Lib.hid HT
    clear HT
    go_wp2_with fail
    go_ret
    exact ⟨ret_b RES.out.symm, HTr.out.low⟩
  by_cases h4 : xk = 4
  · subst h4
    have RES : Hid (res = (decide ((M ⟨x1, x2⟩).length = 0))) := Lib.hid (RS.out.trans (by rfl))
    clear RS
    go_wp2_with fail
    refine (HM.out ⟨x1, x2⟩ _ HT.out.low).mono ?_
    rintro e w1 ⟨ma, mc, rfl, hm, hb1⟩
    have HT := Lib.hid (HT.out.later hb1)
    have hmx := hm.max
    clear hm hb1
    by_cases h0 : (M ⟨x1, x2⟩).length = 0
    · have e0 : (((M ⟨x1, x2⟩).length : Int) == 0) = true := by rw [beq_iff_eq]; omega
      have R := Lib.hid (show res = true by rw [RES.out, decide_eq_true h0])
      clear h0
      go_wp2_with fail
      go_ret
      exact ⟨ret_b R.out.symm, HT.out.low⟩
    · have e0 : (((M ⟨x1, x2⟩).length : Int) == 0) = false := by rw [beq_eq_false_iff_ne]; omega
      have R := Lib.hid (show res = false by rw [RES.out, decide_eq_false h0])
      clear h0
      go_wp2_with fail
      go_ret
      exact ⟨ret_b R.out.symm, HT.out.low⟩
  by_cases h5 : xk = 5
  · subst h5
    have RES : Hid (res = (!((M ⟨x1, x2⟩).any fun s => hasB (M ⟨x3, x4⟩) s))) := Lib.hid (RS.out.trans (by rfl))
    clear RS
    have eg1 : ∀ args w, (callFunc 107 args).run Tryz.prog w = .ok (.enter 107 args) w := enters_of Tryz.func107 (by kernel_rfl) rfl
    go_wp2_with fail
    refine (HM.out ⟨x3, x4⟩ _ HT.out.low).mono ?_
    rintro e w1 ⟨na, nc, rfl, hn, hb1⟩
    have HT := Lib.hid ((HT.out.later hb1).alloc (.cells #[.slice na (M ⟨x3, x4⟩).length nc] 38))
    have HX := Lib.hid (Blk.new w1 #[.slice na (M ⟨x3, x4⟩).length nc] 38)
    have HN1 := Lib.hid (hn.below ((Below.refl _ w1).alloc (Nat.le_refl _) (.cells #[.slice na (M ⟨x3, x4⟩).length nc] 38)))
    obtain ⟨g, hg⟩ : ∃ g, g = w1.heap.size := ⟨_, rfl⟩
    rw [← hg] at HX
    obtain ⟨ca, fa, za⟩ := HT.out.a
    clear hn hb1
    go_wp2_with fail
    refine (HM.out ⟨x1, x2⟩ _ HT.out.low).mono ?_
    rintro e w2 ⟨ma, mc, rfl, hm, hb2⟩
    have HT := Lib.hid (HT.out.later hb2)
    have HX := Lib.hid (HX.out.below hb2)
    have HN1 := Lib.hid (HN1.out.below hb2)
    have CF := Lib.hid (str_ContainsFunc (.slice ma (M ⟨x1, x2⟩).length mc) (M ⟨x1, x2⟩) w2 hm 107 #[.pointer (some ⟨g, 0, none⟩)] (fun s => hasB (M ⟨x3, x4⟩) s) eg1 (fun x V hx hV =>
      (sim_Sat1 g _ (M ⟨x3, x4⟩) x V (((HX.out.below hV).1 0).trans rfl) (HN1.out.below hV)).mono fun e w' ⟨he, hw⟩ => ⟨he, by rw [hw]; exact Below.refl _ _⟩))
    clear hm hb2 ca fa za eg1
    rw [hg] at CF
    clear hg HX HN1
    generalize ((M ⟨x1, x2⟩).any fun s => hasB (M ⟨x3, x4⟩) s) = q at *
    go_wp2_with fail
    refine CF.out.mono ?_
    rintro e w3 ⟨rfl, hb3⟩
    have HT := Lib.hid (HT.out.later hb3)
    clear hb3
    go_wp2_with fail
    go_ret
    exact ⟨ret_b RES.out.symm, HT.out.low⟩
  by_cases h6 : xk = 6
  · subst h6
    have RES : Hid (res = (insideB (M ⟨x1, x2⟩) (M ⟨x3, x4⟩))) := Lib.hid (RS.out.trans (by rfl))
    clear RS
    have HT0 := HT
    go_wp2_with fail
    refine wp_region_held_drew (S := (fun W => ∀ o, W.cell? ⟨w.heap.size, o, none⟩ = (#[.int .i64 6, .string x1, .string x2, .string x3, .string x4, .slice wo us.length wc] : Array Value)[o]?)) (by kernel_rfl) HT0.out.drew.a.1 (fun hHeld => ?_)
    have HT := HT0.out.drew
    obtain ⟨wk, hwk⟩ : ∃ W, W = (w.alloc (.cells #[.int .i64 6, .string x1, .string x2, .string x3, .string x4, .slice wo us.length wc] 45)).drew := ⟨_, rfl⟩
    rw [← hwk] at HT hHeld ⊢
    clear hwk
    (refine held_yes (v := ?_) 0 rfl (by kernel_rfl) (by kernel_rfl) (by kernel_rfl) (fun _ _ _ h => h) (by rfl) (by assumption) ?_ ?_; rotate_left; (focus ((intro w hSw); (try dsimp only at hSw); go_simp; (try with_reducible rfl))); (try simp only [Act.put, List.setIfInBounds_toArray, List.set_cons_zero, List.set_cons_succ])); (refine held_yes (v := ?_) 1 rfl (by kernel_rfl) (by kernel_rfl) (by kernel_rfl) (fun _ _ _ h => h) (by rfl) (by assumption) ?_ ?_; rotate_left; (focus ((intro w hSw); (try dsimp only at hSw); go_simp; (try with_reducible rfl))); (try simp only [Act.put, List.setIfInBounds_toArray, List.set_cons_zero, List.set_cons_succ])); (refine held_yes (v := ?_) 2 rfl (by kernel_rfl) (by kernel_rfl) (by kernel_rfl) (fun _ _ _ h => h) (by rfl) (by assumption) ?_ ?_; rotate_left; (focus ((intro w hSw); (try dsimp only at hSw); go_simp; (try with_reducible rfl))); (try simp only [Act.put, List.setIfInBounds_toArray, List.set_cons_zero, List.set_cons_succ])); (refine held_yes (v := ?_) 4 rfl (by kernel_rfl) (by kernel_rfl) (by kernel_rfl) (fun _ _ _ h => h) (by rfl) (by assumption) ?_ ?_; rotate_left; (focus ((intro w hSw); (try dsimp only at hSw); go_simp; (try with_reducible rfl))); (try simp only [Act.put, List.setIfInBounds_toArray, List.set_cons_zero, List.set_cons_succ])); (refine held_yes (v := ?_) 5 rfl (by kernel_rfl) (by kernel_rfl) (by kernel_rfl) (fun _ _ _ h => h) (by rfl) (by assumption) ?_ ?_; rotate_left; (focus ((intro w hSw); (try dsimp only at hSw); go_simp; (try with_reducible rfl))); (try simp only [Act.put, List.setIfInBounds_toArray, List.set_cons_zero, List.set_cons_succ])); (refine held_yes (v := ?_) 6 rfl (by kernel_rfl) (by kernel_rfl) (by kernel_rfl) (fun _ _ _ h => h) (by rfl) (by assumption) ?_ ?_; rotate_left; (focus ((intro w hSw); (try dsimp only at hSw); go_simp; (try with_reducible rfl))); (try simp only [Act.put, List.setIfInBounds_toArray, List.set_cons_zero, List.set_cons_succ]))
    (refine held_call 3 rfl (by kernel_rfl) (fun K hK => ?_); go_simp)
    refine (HM.out ⟨x1, x2⟩ _ HT.low).mono ?_; rintro e wz3 ⟨ma, mc, rfl, hm, hbq⟩
    have HT := HT.later hbq
    have HM1 := Lib.hid hm
    clear hm hbq
    (refine hK.out _ _ (HT.a.1) (fun hHeld => ?_); clear hK K; (try simp only [Act.put, List.setIfInBounds_toArray, List.set_cons_zero, List.set_cons_succ]))
    (refine held_call 7 rfl (by kernel_rfl) (fun K hK => ?_); go_simp)
    refine (HM.out ⟨x3, x4⟩ _ HT.low).mono ?_; rintro e wz7 ⟨na, nc, rfl, hn, hbq⟩
    have HT := HT.later hbq
    have HM1 := Lib.hid (HM1.out.below hbq)
    have HN1 := Lib.hid hn
    clear hn hbq
    (refine hK.out _ _ (HT.a.1) (fun hHeld => ?_); clear hK K; (try simp only [Act.put, List.setIfInBounds_toArray, List.set_cons_zero, List.set_cons_succ]))
    (refine held_call 8 rfl (by kernel_rfl) (fun K hK => ?_); go_simp)
    go_at_call 105; refine (sim_inside _ _ (M ⟨x1, x2⟩) (M ⟨x3, x4⟩) _ HM1.out HN1.out).mono ?_; rintro e wz8 ⟨rfl, hbq⟩
    have HT := HT.later hbq
    have HM1 := Lib.hid (HM1.out.below hbq)
    have HN1 := Lib.hid (HN1.out.below hbq)
    clear hbq
    (refine hK.out _ _ (HT.a.1) (fun hHeld => ?_); clear hK K; (try simp only [Act.put, List.setIfInBounds_toArray, List.set_cons_zero, List.set_cons_succ]))
    (refine held_yes (v := ?_) 9 rfl (by kernel_rfl) (by kernel_rfl) (by kernel_rfl) (fun _ _ _ h => h) (by rfl) (by assumption) ?_ ?_; rotate_left; (focus ((intro w hSw); (try dsimp only at hSw); go_simp; (try with_reducible rfl))); (try simp only [Act.put, List.setIfInBounds_toArray, List.set_cons_zero, List.set_cons_succ]))
    refine wpAnyH_done (by kernel_rfl) ?_ _
    have HTr := Lib.hid HT
    clear HT
    go_wp2_with fail
    go_ret
    exact ⟨ret_b RES.out.symm, HTr.out.low⟩
  have d1 : (xk == 1) = false := by simp [h1]
  have d2 : (xk == 2) = false := by simp [h2]
  have d3 : (xk == 3) = false := by simp [h3]
  have d4 : (xk == 4) = false := by simp [h4]
  have d5 : (xk == 5) = false := by simp [h5]
  have d6 : (xk == 6) = false := by simp [h6]
  have R := Lib.hid (show res = false by rw [RS.out, if_neg (by omega), if_neg h3, if_neg h4, if_neg h5, if_neg h6])
  clear h1 h2 h3 h4 h5 h6 RS
  go_wp2_with fail
  go_ret
  exact ⟨ret_b R.out.symm, HT.out.low⟩
end Go.Proofs.YtcmdhfccdkjenaaGreatDoor
namespace Go.Proofs.YtcmdhfccdkjenaaGreatDoor
open Go.RowKit Go.Shelf

theorem filter_yesS' {l : List St} {p : St → Bool} {k : Nat} (h : k < l.length) (hp : p l[k] = true) : (l.take (k + 1)).filter p = (l.take k).filter p ++ [l[k]] := by
  rw [List.take_succ_eq_append_getElem h, List.filter_append, List.filter_cons, if_pos hp]; rfl
theorem filter_noS' {l : List St} {p : St → Bool} {k : Nat} (h : k < l.length) (hp : p l[k] = false) : (l.take (k + 1)).filter p = (l.take k).filter p := by
  rw [List.take_succ_eq_append_getElem h, List.filter_append, List.filter_cons, if_neg (by rw [hp]; exact Bool.false_ne_true)]; simp
/-- The place of the first of which p is so; -1: there is none. -/
def IdxD (l : List St) (p : St → Bool) (i : Int) : Prop :=
  (i = -1 ∧ ∀ x ∈ l, p x = false) ∨ ∃ k : Nat, ∃ hk : k < l.length, i = k ∧ p l[k] = true ∧ ∀ j (hj : j < l.length), j < k → p l[j] = false

set_option maxRecDepth 100000 in
set_option maxHeartbeats 2000000 in
theorem st_IndexD (va : Value) (l : List St) (w : World) (ha : SlA w 9 va l.length (l.flatMap St.cells)) (g : Nat) (cb : Array Value) (p : St → Bool)
    (eg : ∀ args w, (callFunc g args).run Tryz.prog w = .ok (.enter g args) w)
    (hp : ∀ x W, x ∈ l → Below w.heap.size w W → Calls Tryz.prog g (#[sv x] ++ cb) W fun e w' => e = .returned (.bool (p x)) ∧ Below W.heap.size W w') :
    Calls Tryz.prog 138 #[va, .func (.func g) #[] cb] w fun e w' => (∃ i : Int, e = .returned (.int .i64 i) ∧ IdxD l p i) ∧ Below w.heap.size w w' := by
  have HP := Lib.hid hp
  have HA := Lib.hid ha
  have hmax := ha.max
  obtain ⟨ao, cap, hva⟩ := ha.form
  subst hva
  clear ha hp
  go_enter Tryz.func138, Tryz.ntmps138
  go_wp2
  go_loopw [8] (fun i wr => ∃ k : Nat, k ≤ l.length ∧ i = .int .i64 k ∧ Hid (Below w.heap.size w wr) ∧ Hid (∀ j (hj : j < l.length), j < k → p l[j] = false)) (fun i _ => l.length - (intOf i).toNat)
  case atStart => exact ⟨0, by omega, rfl, Lib.hid (Below.refl _ _), Lib.hid (fun _ _ h => absurd h (by omega))⟩
  case round =>
    obtain ⟨k, hk, rfl, HB, HJ⟩ := hrel
    by_cases hlt : k < l.length
    · obtain ⟨b1, o1, c1, he1, hc1, hm1, hb1, hx1⟩ := HA.out.pos (by omega)
      simp only [Value.slice.injEq, true_and] at he1
      obtain ⟨rfl, rfl⟩ := he1
      obtain ⟨p0, p1, p2, p3, p4, p5, p6, p7, p8⟩ := st_cell (w := wr) (fun j u hu => (HB.out.cell (p := ⟨b1, o1 + j, none⟩) hb1).trans (hx1 j u hu)) k hlt
      have hbr : b1 < wr.heap.size := Nat.lt_of_lt_of_le hb1 HB.out.size
      have PC := Lib.hid (fun W h => HP.out l[k] W (List.getElem_mem hlt) h)
      have YES : Hid (p l[k] = true → IdxD l p k) := Lib.hid (fun h => .inr ⟨k, hlt, rfl, h, HJ.out⟩)
      have HJ2 : Hid (p l[k] = false → ∀ j (hj : j < l.length), j < k + 1 → p l[j] = false) := Lib.hid (fun hpk j hj hjk => by
        by_cases h : j < k
        · exact HJ.out j hj h
        · obtain rfl : j = k := by omega
          exact hpk)
      clear hx1
      generalize p l[k] = px at PC YES HJ2
      generalize l[k] = x at *
      obtain ⟨xk, ⟨x1, x2⟩, xw, ⟨x3, x4⟩, ⟨x5, x6⟩, xv⟩ := x
      go_wp2_with fail
      refine (PC.out _ HB.out).mono ?_
      rintro e w2 ⟨rfl, hb2⟩
      have HB2 := Lib.hid (HB.out.trans (hb2.mono HB.out.size))
      clear hb2
      cases px with
      | true =>
        have R := Lib.hid (YES.out rfl)
        go_wp2
        go_ret
        exact ⟨⟨(k : Int), rfl, R.out⟩, HB2.out⟩
      | false =>
        have HJ3 := Lib.hid (HJ2.out rfl)
        go_wp2
        exact ⟨⟨k + 1, by omega, by go_num, HB2, HJ3⟩, by simp [intOf]; omega⟩
    · have R : Hid (IdxD l p (-1)) := Lib.hid (.inl ⟨rfl, fun x hx => by
        obtain ⟨j, hj, rfl⟩ := List.getElem_of_mem hx
        exact HJ.out j hj (by omega)⟩)
      go_wp2
      go_ret
      exact ⟨⟨-1, rfl, R.out⟩, HB.out⟩

/-- The first i cells of a row that DeleteFunc works on are those of its first j that stay; the rest is as it was. -/
structure HalfD (w : World) (b o : Nat) (l : List St) (np : St → Bool) (j i : Nat) : Prop where
  len : ((l.take j).filter np).length = i
  low : ∀ k (hk : k < ((l.take j).filter np).length), Nine w b (o + k * 9) ((l.take j).filter np)[k]
  high : ∀ k (hk : k < l.length), j ≤ k → Nine w b (o + k * 9) l[k]
  all : ∀ k, k < l.length → ∃ s0, Nine w b (o + k * 9) s0
theorem HalfD.move {w w' : World} {b o j i : Nat} {l : List St} {np : St → Bool} (h : HalfD w b o l np j i) (hw : ∀ i, w'.cell? ⟨b, i, none⟩ = w.cell? ⟨b, i, none⟩) : HalfD w' b o l np j i :=
  ⟨h.len, fun k hk => (h.low k hk).drop1 (fun _ _ _ => hw _), fun k hk hj => (h.high k hk hj).drop1 (fun _ _ _ => hw _), fun k hk => (h.all k hk).elim fun s0 h0 => ⟨s0, h0.drop1 (fun _ _ _ => hw _)⟩⟩
theorem HalfD.skip {w : World} {b o j i : Nat} {l : List St} {np : St → Bool} (h : HalfD w b o l np j i) (hj : j < l.length) (e : np l[j] = false) : HalfD w b o l np (j + 1) i := by
  have hd := filter_noS' hj e
  exact ⟨by rw [hd]; exact h.len, fun k hk => by simp only [hd]; exact h.low k (by rw [← hd]; exact hk), fun k hk hjk => h.high k hk (by omega), h.all⟩
theorem HalfD.put {w : World} {b o j i : Nat} {l : List St} {np : St → Bool} (h : HalfD w b o l np j i) (hj : j < l.length) (hij : i ≤ j) (e : np l[j] = true) : HalfD (W9 w b (o + i * 9) l[j]) b o l np (j + 1) (i + 1) := by
  have hd := filter_yesS' hj e
  refine ⟨by rw [hd, List.length_append, h.len]; rfl, fun k hk => ?_, fun k hk hjk => ?_, fun k hk => ?_⟩
  · rw [hd, List.length_append, h.len] at hk
    simp only [List.length_cons, List.length_nil] at hk
    by_cases hik : k < i
    · have e1 : ((l.take (j + 1)).filter np)[k]'(by rw [hd, List.length_append, h.len]; simp; omega) = ((l.take j).filter np)[k]'(by rw [h.len]; exact hik) := by
        simp only [hd]; rw [List.getElem_append_left]
      rw [e1]
      exact (h.low k (by rw [h.len]; exact hik)).drop1 (fun _ _ _ => w9_far _ _ _ _ _ (by omega))
    · obtain rfl : k = i := by omega
      have e1 : ((l.take (j + 1)).filter np)[k]'(by rw [hd, List.length_append, h.len]; simp) = l[j] := by
        simp only [hd]; rw [List.getElem_append_right (by rw [h.len]; exact Nat.le_refl _)]; simp [h.len]
      rw [e1]
      obtain ⟨s0, h0⟩ := h.all k (by omega)
      exact w9_new _ _ h0
  · exact (h.high k hk (by omega)).drop1 (fun _ _ _ => w9_far _ _ _ _ _ (by omega))
  · obtain ⟨s0, h0⟩ := h.all k hk
    by_cases hik : k = i
    · subst hik; exact ⟨_, w9_new _ _ h0⟩
    · exact ⟨s0, h0.drop1 (fun _ _ _ => w9_far _ _ _ _ _ (by omega))⟩
theorem HalfD.start {w : World} {b o k : Nat} {l : List St} {np : St → Bool} (hx : ∀ j u, (l.flatMap St.cells)[j]? = some u → w.cell? ⟨b, o + j, none⟩ = some u) (hk : k < l.length) (h0 : np l[k] = false) (h1 : ∀ j (hj : j < l.length), j < k → np l[j] = true) : HalfD w b o l np (k + 1) k := by
  have hd : (l.take (k + 1)).filter np = l.take k := by
    rw [filter_noS' hk h0, List.filter_eq_self]
    intro x hx
    obtain ⟨j, hj, rfl⟩ := List.getElem_of_mem hx
    rw [List.getElem_take]
    rw [List.length_take] at hj
    exact h1 j (by omega) (by omega)
  refine ⟨by rw [hd, List.length_take]; omega, fun i hi => ?_, fun i hi _ => st_cell (w := w) hx i hi, fun i hi => ⟨_, st_cell (w := w) hx i hi⟩⟩
  have hi' : i < l.length := by rw [hd, List.length_take] at hi; omega
  have e : ((l.take (k + 1)).filter np)[i] = l[i] := by simp only [hd, List.getElem_take]
  rw [e]
  exact st_cell (w := w) hx i hi'
theorem HalfD.done {w : World} {b o j i : Nat} {l : List St} {np : St → Bool} (h : HalfD w b o l np j i) (hj : j = l.length) : (l.filter np).length = i ∧ ∀ k (hk : k < (l.filter np).length), Nine w b (o + k * 9) (l.filter np)[k] := by
  subst hj
  obtain ⟨h1, h2, _, _⟩ := h
  simp only [List.take_of_length_le (Nat.le_refl _)] at h1 h2
  exact ⟨h1, h2⟩
theorem HalfD.some {w : World} {b o j i : Nat} {l : List St} {np : St → Bool} (h : HalfD w b o l np j i) (hi : i ≤ l.length) : ∀ k, k < (l.length - i) * 9 → (w.cell? ⟨b, o + i * 9 + k, none⟩).isSome = true := by
  intro k hk
  obtain ⟨s0, h0⟩ := h.all (i + k / 9) (by omega)
  have := nine_some h0 (k % 9) (Nat.mod_lt _ (by decide))
  rwa [show o + (i + k / 9) * 9 + k % 9 = o + i * 9 + k by omega] at this
set_option maxRecDepth 100000 in
set_option maxHeartbeats 8000000 in
/-- slices.DeleteFunc at a row of roles of the call's own. -/
theorem st_DeleteFunc (b o cap : Nat) (l : List St) (w : World) (_ : l.length ≤ 1000) (hc : l.length ≤ cap) (hcm : cap ≤ 9223372036854775807) (hb : b < w.heap.size)
    (hx : ∀ j u, (l.flatMap St.cells)[j]? = some u → w.cell? ⟨b, o + j, none⟩ = some u) (hf : ∀ i, w.frozen? ⟨b, i, none⟩ = false)
    (g : Nat) (cb : Array Value) (p : St → Bool) (eg : ∀ args w, (callFunc g args).run Tryz.prog w = .ok (.enter g args) w)
    (hp : ∀ x W, w.grownBy W (some b) → Calls Tryz.prog g (#[sv x] ++ cb) W fun e w' => e = .returned (.bool (p x)) ∧ Below W.heap.size W w') :
    Calls Tryz.prog 81 #[.slice (some ⟨b, o, none⟩) l.length cap, .func (.func g) #[] cb] w fun e w' =>
      e = .returned (.slice (some ⟨b, o, none⟩) (l.filter fun x => !p x).length cap) ∧ (∀ j u, ((l.filter fun x => !p x).flatMap St.cells)[j]? = some u → w'.cell? ⟨b, o + j, none⟩ = some u) ∧ w.grownBy w' (some b) := by
  have hmax : maxLen = 9223372036854775807 := by decide
  have HX := Lib.hid hx
  have HP := Lib.hid hp
  have HF := Lib.hid hf
  have IDX := Lib.hid (st_IndexD (.slice (some ⟨b, o, none⟩) l.length cap) l w (Sl.a ⟨flat_len _ _ St.cells_len _, by omega, .inr ⟨b, o, cap, rfl, hc, by omega, hb, hx⟩⟩) g cb p eg (fun x W _ hW => hp x W (grown_of_below hW _)))
  clear hx hp hf
  go_enter Tryz.func81, Tryz.ntmps81
  go_wp2_with fail
  refine IDX.out.mono ?_
  rintro e w1 ⟨⟨i, rfl, hidx⟩, hb1⟩
  have HB1 := Lib.hid hb1
  rcases hidx with ⟨rfl, hno⟩ | ⟨k, hk, rfl, hyes, hbef⟩
  · have R := Lib.hid (show (l.filter fun x => !p x) = l by rw [List.filter_eq_self]; intro x hx; rw [hno x hx]; rfl)
    clear hno hb1
    go_wp2
    go_ret
    exact ⟨by rw [R.out]; rfl, by rw [R.out]; exact fun j u hu => (HB1.out.cell (p := ⟨b, o + j, none⟩) hb).trans (HX.out j u hu), grown_of_below HB1.out _⟩
  · have d1 : ((k : Int) == -1) = false := by rw [beq_eq_false_iff_ne]; omega
    have H0 := Lib.hid (HalfD.start (np := fun x => !p x) (w := w1) (b := b) (o := o) (fun j u hu => (HB1.out.cell (p := ⟨b, o + j, none⟩) hb).trans (HX.out j u hu)) hk (by rw [hyes]; rfl) (fun j hj hjk => by rw [hbef j hj hjk]; rfl))
    have F0 := Lib.hid (fun i => (HB1.out.frozen (p := ⟨b, i, none⟩) hb).trans (HF.out i))
    have hb1s : b < w1.heap.size := Nat.lt_of_lt_of_le hb HB1.out.size
    clear hyes hbef hb1
    go_wp2_with fail
    go_loopw [5, 6] (fun iv jv wr => ∃ i j : Nat, i < j ∧ j ≤ l.length ∧ iv = .int .i64 i ∧ jv = .int .i64 j ∧ Hid (HalfD wr b o l (fun x => !p x) j i) ∧ Hid (w.grownBy wr (some b)) ∧ Hid (∀ i, wr.frozen? ⟨b, i, none⟩ = false) ∧ b < wr.heap.size) (fun _ jv _ => l.length - (intOf jv).toNat)
    case atStart => exact ⟨k, k + 1, by omega, by omega, rfl, by go_num, H0, Lib.hid (grown_of_below HB1.out _), F0, hb1s⟩
    case round =>
      obtain ⟨i, j, hij, hj, rfl, rfl, HH, HG, HFR, hbr⟩ := hrel
      by_cases hlt : j < l.length
      · obtain ⟨p0, p1, p2, p3, p4, p5, p6, p7, p8⟩ := HH.out.high j hlt (Nat.le_refl _)
        have hil : i < l.length := by omega
        obtain ⟨s0, q0, q1, q2, q3, q4, q5, q6, q7, q8⟩ := HH.out.all i hil
        have PC := Lib.hid (fun W h => HP.out l[j] W h)
        have YES : Hid (∀ W, HalfD W b o l (fun x => !p x) j i → p l[j] = false → HalfD (W9 W b (o + i * 9) l[j]) b o l (fun x => !p x) (j + 1) (i + 1)) := Lib.hid (fun W h e => h.put hlt (by omega) (by rw [e]; rfl))
        have NO : Hid (∀ W, HalfD W b o l (fun x => !p x) j i → p l[j] = true → HalfD W b o l (fun x => !p x) (j + 1) i) := Lib.hid (fun W h e => h.skip hlt (by rw [e]; rfl))
        generalize p l[j] = px at PC YES NO
        generalize l[j] = x at *
        obtain ⟨xk, ⟨x1, x2⟩, xw, ⟨x3, x4⟩, ⟨x5, x6⟩, xv⟩ := x
        have HGA := Lib.hid (gb_alloc HG.out (.cells #[.int .i64 xk, .string x1, .string x2, .string xw, .string x3, .string x4, .string x5, .string x6, .string xv] 35))
        go_wp2_with fail
        refine (PC.out _ HGA.out).mono ?_
        rintro e w2 ⟨rfl, hb2a⟩
        have HBK := Lib.hid (keep1 hb2a)
        have hb2 : Below wr.heap.size wr w2 := ((Below.refl _ _).alloc (Nat.le_refl _) _).trans (hb2a.mono (by simp))
        have HB2 := Lib.hid hb2
        obtain ⟨cx, fx, zx⟩ := HBK.out
        have hc2 := Lib.hid (fun i => hb2.cell (p := ⟨b, i, none⟩) hbr)
        have f2 : ∀ i, w2.frozen? ⟨b, i, none⟩ = false := fun i => (hb2.frozen (p := ⟨b, i, none⟩) hbr).trans (HFR.out i)
        have p0' := (hc2.out _).trans p0
        have p1' := (hc2.out _).trans p1
        have p2' := (hc2.out _).trans p2
        have p3' := (hc2.out _).trans p3
        have p4' := (hc2.out _).trans p4
        have p5' := (hc2.out _).trans p5
        have p6' := (hc2.out _).trans p6
        have p7' := (hc2.out _).trans p7
        have p8' := (hc2.out _).trans p8
        have q0' := (hc2.out _).trans q0
        have q1' := (hc2.out _).trans q1
        have q2' := (hc2.out _).trans q2
        have q3' := (hc2.out _).trans q3
        have q4' := (hc2.out _).trans q4
        have q5' := (hc2.out _).trans q5
        have q6' := (hc2.out _).trans q6
        have q7' := (hc2.out _).trans q7
        have q8' := (hc2.out _).trans q8
        have hbr2 : b < w2.heap.size := Nat.lt_of_lt_of_le hbr hb2.size
        have HG2 := Lib.hid (gb_trans HG.out (gb_of_below (r := some b) hb2))
        have HM := Lib.hid (HH.out.move hc2.out)
        clear hb2 hb2a p0 p1 p2 p3 p4 p5 p6 p7 p8 q0 q1 q2 q3 q4 q5 q6 q7 q8
        cases px with
        | true =>
          have R := Lib.hid (NO.out _ HM.out rfl)
          go_wp2
          exact ⟨⟨i, j + 1, by omega, by omega, rfl, by go_num, R, HG2, Lib.hid f2, hbr2⟩, by simp [intOf]; omega⟩
        | false =>
          have R := Lib.hid (YES.out _ HM.out rfl)
          go_wp2
          refine ⟨⟨i + 1, j + 1, by omega, by omega, by go_num, by go_num, Lib.hid ?_, Lib.hid ?_, Lib.hid ?_, ?_⟩, by simp [intOf]; omega⟩
          · have h := R.out
            unfold W9 at h
            with_reducible exact h
          · have h := grown_w9 (b := b) (a := o + i * 9) (s := ⟨xk, ⟨x1, x2⟩, xw, ⟨x3, x4⟩, ⟨x5, x6⟩, xv⟩) HG2.out
            unfold W9 at h
            with_reducible exact h
          · intro i
            simpa using f2 i
          · simpa using hbr2
      · obtain ⟨hlen, hlow⟩ := HH.out.done (by omega)
        have HLEN := Lib.hid hlen
        have HLOW := Lib.hid hlow
        have hil : i < l.length := by omega
        have hic : i < cap := by omega
        obtain ⟨W', hW, hclr⟩ : ∃ W', W' = wr.setCells b (o + i * 9) (Builtin.zeroCells zeroSt.cells (l.length - i)).toList ∧ ∀ ty, Sem.run Tryz.prog (Builtin.clear_ #[22] ty #[.slice (some ⟨b, o + i * 9, none⟩) (l.length - i) (cap - i)]) wr = .ok (.tuple #[]) W' :=
          ⟨_, rfl, fun ty => run_clear9 wr _ 35 ty zeroSt Tryz.underlying22 st_zero b (o + i * 9) (l.length - i) (cap - i) (by omega) rfl (HH.out.some (by omega)) (fun j => HFR.out _) (zero_one _)⟩
        have HOUT : Hid (∀ k, k < o + i * 9 → W'.cell? ⟨b, k, none⟩ = wr.cell? ⟨b, k, none⟩) := Lib.hid (fun k hk => by rw [hW]; exact World.cell?_setCells_out b _ _ _ _ (fun _ _ => .inl hk))
        have HGW : Hid (w.grownBy W' (some b)) := Lib.hid (by rw [hW]; exact grown_sets _ _ _ HG.out)
        clear hlen hlow hW
        go_wp2_with fail
        go_ret
        refine ⟨by rw [HLEN.out]; rfl, ?_, HGW.out⟩
        refine nine_cells (fun k hk => (HLOW.out k hk).drop1 (fun j h1 h2 => HOUT.out j ?_))
        have := HLEN.out
        omega
set_option maxHeartbeats 1000000 in
theorem st_DeleteNil (w : World) (g : Nat) (cb : Array Value) (eg : ∀ args w, (callFunc g args).run Tryz.prog w = .ok (.enter g args) w) :
    Calls Tryz.prog 81 #[.slice none 0 0, .func (.func g) #[] cb] w fun e w' => e = .returned (.slice none 0 0) ∧ Below w.heap.size w w' := by
  have IDX := Lib.hid (st_IndexD (.slice none 0 0) [] w (Sl.nil _ _).a g cb (fun _ => false) eg (fun x W hx _ => by cases hx))
  go_enter Tryz.func81, Tryz.ntmps81
  go_wp2_with fail
  refine IDX.out.mono ?_
  rintro e w1 ⟨⟨i, rfl, hidx⟩, hb1⟩
  have HB1 := Lib.hid hb1
  rcases hidx with ⟨rfl, _⟩ | ⟨k, hk, _⟩
  · clear hb1
    go_wp2
    go_ret
    exact ⟨rfl, HB1.out⟩
  · exact absurd hk (by simp)
end Go.Proofs.YtcmdhfccdkjenaaGreatDoor
namespace Go.Proofs.YtcmdhfccdkjenaaGreatDoor
open Go.RowKit Go.Shelf

/-- Statements of roles that may not shrink. -/
def minS (l : List St) (h : List Rl) : List St := l.filter (fun s => hasR h s.h)
theorem minS_len (l : List St) (h : List Rl) : (minS l h).length ≤ l.length := List.length_filter_le _ _
set_option maxHeartbeats 1000000 in
theorem low_Minimal1 (c : Nat) (v0 v1 vg v3 : Value) (g : List Rl) (x : St) (w : World) (hc : ∀ o, w.cell? ⟨c, o, none⟩ = (#[v0, v1, vg, v3] : Array Value)[o]?) (hg : SlA w 2 vg g.length (g.flatMap Rl.cells)) (h0 : v0.oneCell' = true) (h1 : v1.oneCell' = true) (h3 : v3.oneCell' = true) :
    Calls Tryz.prog 83 #[sv x, .pointer (some ⟨c, 0, none⟩)] w fun e w' => e = .returned (.bool (!hasR g x.h)) ∧ Below w.heap.size w w' := by
  have H := Lib.hid (fun W h => state_MayGo v0 v1 vg v3 g x W h h0 h1 h3)
  have HB := Lib.hid hg
  have hlt : c < w.heap.size := World.block_lt_of_cell? w (u := v0) _ (hc 0)
  generalize hasR g x.h = r at H ⊢
  obtain ⟨bo, bc, hvb⟩ := hg.form
  subst hvb
  obtain ⟨xk, ⟨x1, x2⟩, xw, ⟨x3, x4⟩, ⟨x5, x6⟩, xv⟩ := x
  clear hg
  go_enter Tryz.func83, Tryz.ntmps83
  go_wp2_with fail
  refine (H.out _ (HB.out.below ((Below.refl _ _).alloc (Nat.le_refl _) _))).mono ?_
  rintro e w1 ⟨rfl, hb1⟩
  have HB1 := Lib.hid (((Below.refl _ w).alloc (Nat.le_refl _) _).trans (hb1.mono (by simp)) : Below w.heap.size w w1)
  clear hb1
  go_wp2
  go_ret
  exact ⟨rfl, HB1.out⟩
theorem below_of_grownS {w a b : World} {g : Nat} (h : Below w.heap.size w a) (hg : w.heap.size ≤ g) (hr : a.grownBy b (some g)) : Below w.heap.size w b :=
  h.grown hr h.size (by rintro k ⟨⟩; exact hg)
set_option maxHeartbeats 2000000 in
theorem low_Minimal (v0 v1 v2 v3 : Value) (l : List St) (g h : List Rl) (qs : List Qv) (w : World) (hp : PolAt w v0 v1 v2 v3 l g h qs) (hl : l.length ≤ 1000) :
    Calls Tryz.prog 19 #[pv v0 v1 v2 v3] w fun e w' => ∃ v, e = .returned v ∧ Sl w' 9 v (minS l h).length ((minS l h).flatMap St.cells) ∧ Below w.heap.size w w' := by
  have hmax : maxLen = 9223372036854775807 := by decide
  have eg : ∀ args w, (callFunc 83 args).run Tryz.prog w = .ok (.enter 83 args) w := enters_of Tryz.func83 (by kernel_rfl) rfl
  have HW := Lib.hid (show Below w.heap.size w (w.alloc (.cells #[v0, v1, v2, v3] 26)) from (Below.refl _ _).alloc (Nat.le_refl _) _)
  have BK := Lib.hid (Blk.new w #[v0, v1, v2, v3] 26)
  have CL := Lib.hid (st_Clone v0 l (w.alloc (.cells #[v0, v1, v2, v3] 26)) (hp.rs.below HW.out) (by omega))
  have o0 : v0.oneCell' = true := by obtain ⟨a, c, rfl⟩ := hp.rs.form; rfl
  have o1 : v1.oneCell' = true := by obtain ⟨a, c, rfl⟩ := hp.rg.form; rfl
  have o3 : v3.oneCell' = true := by obtain ⟨a, c, rfl⟩ := hp.rq.form; rfl
  have HH := Lib.hid (hp.rh.below HW.out)
  have DF := Lib.hid (fun W b cap (hlow : Below (w.alloc (.cells #[v0, v1, v2, v3] 26)).heap.size (w.alloc (.cells #[v0, v1, v2, v3] 26)) W) (hne : (w.alloc (.cells #[v0, v1, v2, v3] 26)).heap.size ≤ b) (hc : l.length ≤ cap) (hcm : cap ≤ 9223372036854775807) (hbs : b < W.heap.size) hx hf =>
    st_DeleteFunc b 0 cap l W hl hc hcm hbs hx hf 83 #[.pointer (some ⟨w.heap.size, 0, none⟩)] (fun s => !hasR h s.h) eg (fun x V hV => by
      have hlo : Below (w.alloc (.cells #[v0, v1, v2, v3] 26)).heap.size (w.alloc (.cells #[v0, v1, v2, v3] 26)) V := hlow.grown hV hlow.size (by rintro k ⟨⟩; exact hne)
      exact low_Minimal1 w.heap.size v0 v1 v2 v3 h x V ((BK.out.below hlo).1) (HH.out.below hlo) o0 o1 o3))
  have DN := Lib.hid (fun W => st_DeleteNil W 83 #[.pointer (some ⟨w.heap.size, 0, none⟩)] eg)
  have FL := Lib.hid (show (l.filter fun x => !(!hasR h x.h)) = minS l h by unfold minS; simp)
  have FN := Lib.hid (fun (h0 : l = []) => show minS l h = [] by rw [h0]; rfl)
  have LX := Lib.hid (minS_len l h)
  obtain ⟨a0, c0, rfl⟩ := hp.rs.form
  obtain ⟨a1, c1, rfl⟩ := hp.rg.form
  obtain ⟨a2, c2, rfl⟩ := hp.rh.form
  obtain ⟨a3, c3, rfl⟩ := hp.rq.form
  generalize minS l h = ms at *
  clear hp eg o0 o1 o3
  go_enter Tryz.func19, Tryz.ntmps19
  go_wp2_with fail
  refine CL.out.mono ?_
  rintro e w1 ⟨hb1, ho⟩
  have HB1 := Lib.hid hb1
  have HW1 := Lib.hid (HW.out.trans (hb1.mono HW.out.size))
  have hz1 : w.heap.size < w1.heap.size := Nat.lt_of_lt_of_le (by simp) hb1.size
  rcases ho with ⟨rfl, h0⟩ | ⟨g, cap, rfl, h1, h2, h3, h4, h5, h6⟩
  · have F := Lib.hid (FN.out h0)
    clear hb1 h0 DF CL FN FL
    go_wp2_with fail
    refine (DN.out _).mono ?_
    rintro e w2 ⟨rfl, hb2⟩
    have HB2 := Lib.hid (HW1.out.trans (hb2.mono HW1.out.size))
    clear hb2
    go_wp2
    go_ret
    exact ⟨_, rfl, by rw [F.out]; exact Sl.nil _ _, HB2.out⟩
  · have D := Lib.hid (DF.out w1 g cap HB1.out h1 h3 h4 h2 h5 h6)
    have hwg : w.heap.size ≤ g := Nat.le_trans (by simp) h1
    rw [FL.out] at D
    have hmc : ms.length ≤ cap := Nat.le_trans LX.out h3
    clear hb1 DN DF CL FN FL h5 h6
    go_wp2_with fail
    refine D.out.mono ?_
    rintro e w2 ⟨rfl, hx, hg2⟩
    have HX := Lib.hid hx
    have HG := Lib.hid hg2
    clear hx hg2
    go_wp2
    go_ret
    exact ⟨_, rfl, ⟨flat_len _ _ St.cells_len _, by omega, .inr ⟨g, 0, cap, rfl, hmc, by omega, Nat.lt_of_lt_of_le h2 HG.out.size, HX.out⟩⟩, below_of_grownS HW1.out hwg HG.out⟩
theorem st1s (k : Int) (a b c d e f g h : ByteArray) : ∀ u ∈ [Value.int .i64 k, .string a, .string b, .string c, .string d, .string e, .string f, .string g, .string h], u.oneCell' = true := by
  intro u hu; simp at hu; rcases hu with rfl | rfl | rfl | rfl | rfl | rfl | rfl | rfl | rfl <;> rfl
theorem push_at {α : Type} {e : TypeId} {size : Nat} (enc : α → List Value) {w wr w3 : World} {A : Array Value} {vo : Value} {rs : List α} {x : α} {o : Obj} {a' : Option Addr} {cap' : Nat} (ht : OneAt w A wr) (hown : wr.ownsRow (w.heap.size + 1) e size vo rs.length (rs.flatMap enc))
    (h : w3.ownsRow (w.heap.size + 1) e size (.slice a' (rs.length + 1) cap') (rs.length + 1) (rs.flatMap enc ++ enc x)) (hg : (wr.alloc o).grownBy w3 vo.ownBlock) :
    w3.ownsRow (w.heap.size + 1) e size (.slice a' (rs.length + 1) cap') (rs ++ [x]).length ((rs ++ [x]).flatMap enc) ∧ OneAt w A w3 := by
  refine ⟨by rw [List.length_append, List.flatMap_append]; simpa using h, (ht.a.alloc o).grown hg (own_gt_ne hown (Nat.lt_succ_self _)), ?_⟩
  exact below_own (ht.low.alloc ht.low.size o) (hown.alloc _) hg (by have := ht.low.size; simp; omega) (Nat.le_succ _)
end Go.Proofs.YtcmdhfccdkjenaaGreatDoor
namespace Go.Proofs.YtcmdhfccdkjenaaGreatDoor
open Go.RowKit Go.Shelf

def gOne (x : ByteArray) (s : St) (q : Pr) : List ByteArray := if q.1 = ⟨x, s.via⟩ then [q.2] else []
def fOne (ps : List Pr) (s : St) (p : Pr) : List ByteArray := if p.1 = s.a then (if s.k = 2 ∨ s.k = 4 ∧ hasP ps s.b p.2 = true then [p.2] else []) ++ (if s.k = 3 then ps.flatMap (gOne p.2 s) else []) else []
theorem follows_one {ps : List Pr} {s : St} (h : s.k = 1) : followsR ps s = [s.who] := by unfold followsR; rw [if_pos h]
theorem follows_two {ps : List Pr} {s : St} (h : ¬ s.k = 1) : followsR ps s = ps.flatMap (fOne ps s) := by unfold followsR; rw [if_neg h]; rfl
theorem flatMap_le {α β : Type} (f : α → List β) (c : Nat) (h : ∀ x, (f x).length ≤ c) : ∀ l : List α, (l.flatMap f).length ≤ l.length * c
  | [] => by simp
  | a :: l => by
    have h1 := h a
    have h2 := flatMap_le f c h l
    rw [List.flatMap_cons, List.length_append, List.length_cons, Nat.succ_mul]
    omega
theorem gOne_len (x : ByteArray) (s : St) (q : Pr) : (gOne x s q).length ≤ 1 := by unfold gOne; split <;> simp
theorem fOne_len (ps : List Pr) (s : St) (p : Pr) : (fOne ps s p).length ≤ ps.length + 1 := by
  have h := flatMap_le (gOne p.2 s) 1 (gOne_len p.2 s) ps
  unfold fOne
  split
  · rw [List.length_append]
    have h1 : (if s.k = 2 ∨ s.k = 4 ∧ hasP ps s.b p.2 = true then [p.2] else []).length ≤ 1 := by split <;> simp
    have h2 : (if s.k = 3 then ps.flatMap (gOne p.2 s) else []).length ≤ ps.length := by
      split
      · omega
      · exact Nat.zero_le _
    omega
  · simp
theorem fOne_no {ps : List Pr} {s : St} {p : Pr} (h : ¬ p.1 = s.a) : fOne ps s p = [] := by unfold fOne; rw [if_neg h]
theorem fOne_2 {ps : List Pr} {s : St} {p : Pr} (h : p.1 = s.a) (hk : s.k = 2) : fOne ps s p = [p.2] := by unfold fOne; rw [if_pos h, if_pos (.inl hk), if_neg (by omega)]; simp
theorem fOne_3 {ps : List Pr} {s : St} {p : Pr} (h : p.1 = s.a) (hk : s.k = 3) : fOne ps s p = ps.flatMap (gOne p.2 s) := by unfold fOne; rw [if_pos h, if_neg (by omega), if_pos hk]; simp
theorem fOne_4 {ps : List Pr} {s : St} {p : Pr} (h : p.1 = s.a) (hk : s.k = 4) : fOne ps s p = if hasP ps s.b p.2 = true then [p.2] else [] := by
  unfold fOne
  rw [if_pos h, if_neg (show ¬ s.k = 3 by omega), List.append_nil]
  by_cases hh : hasP ps s.b p.2 = true
  · rw [if_pos (.inr ⟨hk, hh⟩), if_pos hh]
  · rw [if_neg (by rintro (h1 | h1); · omega
                   · exact hh h1.2), if_neg hh]
theorem fOne_o {ps : List Pr} {s : St} {p : Pr} (h2 : ¬ s.k = 2) (h3 : ¬ s.k = 3) (h4 : ¬ s.k = 4) : fOne ps s p = [] := by
  unfold fOne
  rw [if_neg (show ¬ (s.k = 2 ∨ s.k = 4 ∧ _) by rintro (h1 | h1); · exact h2 h1
                                                · exact h4 h1.1), if_neg h3]
  split <;> rfl
theorem own_baseF {w : World} {base base' size n : Nat} {e : TypeId} {v : Value} {xs : List Value} (h : w.ownsRow base e size v n xs) (hb : base' ≤ base) : w.ownsRow base' e size v n xs := by
  refine ⟨h.1, ?_⟩
  rcases h.2 with h2 | ⟨g, cap, cur, hv, h1, h3⟩
  · exact .inl h2
  · exact .inr ⟨g, cap, cur, hv, Nat.le_trans hb h1, h3⟩
/-- A pair in a block of its own. -/
def XAt (w : World) (b : Nat) (y1 y2 y3 : ByteArray) : Prop := w.heap[b]? = some (.cells #[.string y1, .string y2, .string y3] 120 (0, 0))
theorem XAt.blk {w : World} {b : Nat} {y1 y2 y3 : ByteArray} (h : XAt w b y1 y2 y3) : Blk w b #[.string y1, .string y2, .string y3] := blk_of h
theorem XAt.lt {w : World} {b : Nat} {y1 y2 y3 : ByteArray} (h : XAt w b y1 y2 y3) : b < w.heap.size := (Array.getElem?_eq_some_iff.1 h).1
theorem XAt.below {w w' : World} {b : Nat} {y1 y2 y3 : ByteArray} (h : XAt w b y1 y2 y3) (hb : Below w.heap.size w w') : XAt w' b y1 y2 y3 := (hb.block b h.lt).trans h
theorem XAt.alloc {w : World} {b : Nat} {y1 y2 y3 : ByteArray} (h : XAt w b y1 y2 y3) (o : Obj) : XAt (w.alloc o) b y1 y2 y3 := h.below ((Below.refl _ _).alloc (Nat.le_refl _) o)
theorem XAt.grown {w w' : World} {b base n : Nat} {y1 y2 y3 : ByteArray} {v : Value} {xs : List Value} (h : XAt w b y1 y2 y3) (ho : w.ownsRow base 9 1 v n xs) (hg : w.grownBy w' v.ownBlock) : XAt w' b y1 y2 y3 :=
  (hg.block b h.lt (own_tag ho h (by decide))).trans h
theorem strs_snoc (ys : List ByteArray) (x : ByteArray) : strs (ys ++ [x]) = strs ys ++ [.string x] := by unfold strs; rw [List.map_append]; rfl
theorem push_strF {w wr w3 : World} {A : Array Value} {vo : Value} {ys : List ByteArray} {x : ByteArray} {o : Obj} {a' : Option Addr} {cap' : Nat} (ht : OneAt w A wr) (hown : wr.ownsRow (w.heap.size + 1) 9 1 vo ys.length (strs ys))
    (h : w3.ownsRow (w.heap.size + 1) 9 1 (.slice a' (ys.length + 1) cap') (ys.length + 1) (strs ys ++ [.string x])) (hg : (wr.alloc o).grownBy w3 vo.ownBlock) :
    w3.ownsRow (w.heap.size + 1) 9 1 (.slice a' (ys.length + 1) cap') (ys ++ [x]).length (strs (ys ++ [x])) ∧ OneAt w A w3 := by
  refine ⟨by rw [List.length_append, strs_snoc]; exact h, (ht.a.alloc o).grown hg (own_gt_ne hown (Nat.lt_succ_self _)), ?_⟩
  exact below_own (ht.low.alloc ht.low.size o) (hown.alloc _) hg (by have := ht.low.size; simp; omega) (Nat.le_succ _)
set_option maxRecDepth 100000 in
set_option maxHeartbeats 8000000 in
theorem ref11_follows (va : Value) (ps : List Pr) (s : St) (w : World) (ha : SlA w 3 va ps.length (ps.flatMap pcells)) (hn : ps.length ≤ 2000) :
    Calls Tryz.prog 92 #[va, sv s] w fun e w' => ∃ v, e = .returned v ∧ w'.ownsRow w.heap.size 9 1 v (followsR ps s).length (strs (followsR ps s)) ∧ Below w.heap.size w w' := by
  have hEq := role_eql
  have hNe := role_neq
  have HA := Lib.hid ha
  have IN := Lib.hid (fun x W (hb : Below w.heap.size w W) => ref11_In va ps s.b x W (ha.below hb))
  have F1 := Lib.hid (fun h => follows_one (ps := ps) (s := s) h)
  have F2 := Lib.hid (fun h => follows_two (ps := ps) (s := s) h)
  have hmax := ha.max
  obtain ⟨a0, c0, rfl⟩ := ha.form
  clear ha
  by_cases k1 : s.k = 1
  · rw [F1.out k1]
    clear F1 F2 IN HA
    obtain ⟨k, ⟨h1, h2⟩, who, ⟨s1, s2⟩, ⟨s3, s4⟩, via⟩ := s
    dsimp only at k1
    subst k1
    go_enter Tryz.func92, Tryz.ntmps92
    go_wp2_with fail
    go_ret
    exact ⟨.slice (some ⟨w.heap.size + 1, 0, none⟩) 1 1, rfl, ⟨rfl, .inr ⟨w.heap.size + 1, 1, #[.string who], rfl, Nat.le_succ _, heap_new2 _ _ _, Nat.le_refl _, by simp [maxLen], rfl, rfl⟩⟩, ((Below.refl _ _).alloc (Nat.le_refl _) _).alloc (by simp) _⟩
  · have F2' := Lib.hid (F2.out k1)
    have N2 := Lib.hid (fun p h => fOne_no (ps := ps) (s := s) (p := p) h)
    have N20 := Lib.hid (fun p h hk => fOne_2 (ps := ps) (s := s) (p := p) h hk)
    have N30 := Lib.hid (fun p h hk => fOne_3 (ps := ps) (s := s) (p := p) h hk)
    have N40 := Lib.hid (fun p h hk => fOne_4 (ps := ps) (s := s) (p := p) h hk)
    have N50 := Lib.hid (fun p h2 h3 h4 => fOne_o (ps := ps) (s := s) (p := p) h2 h3 h4)
    have FLen := Lib.hid (fun k => flatMap_le (fOne ps s) (ps.length + 1) (fOne_len ps s) (ps.take k))
    have GO := Lib.hid (fun x (q : Pr) => show gOne x s q = if eqRl q.1 ⟨x, s.via⟩ = true then [q.2] else [] by
      unfold gOne eqRl; by_cases h : q.1 = ⟨x, s.via⟩
      · rw [if_pos h, if_pos (decide_eq_true h)]
      · rw [if_neg h, if_neg (by rw [decide_eq_false h]; exact Bool.false_ne_true)])
    have GLen := Lib.hid (fun x j => flatMap_le (gOne x s) 1 (gOne_len x s) (ps.take j))
    have FS := Lib.hid (fun k (hk : k < ps.length) => flat_snocF (fOne ps s) hk)
    have GS := Lib.hid (fun x k (hk : k < ps.length) => flat_snocF (gOne x s) hk)
    rw [F2'.out]
    clear F1 F2 F2'
    generalize fOne ps s = ff at *
    generalize hgg : (fun x => gOne x s) = gg at *
    have GO' : Hid (∀ x (q : Pr), gg x q = if eqRl q.1 ⟨x, s.via⟩ = true then [q.2] else []) := Lib.hid (by rw [← hgg]; exact GO.out)
    have GLen' : Hid (∀ x j, ((ps.take j).flatMap (gg x)).length ≤ (ps.take j).length * 1) := Lib.hid (by rw [← hgg]; exact GLen.out)
    have GS' : Hid (∀ x k (hk : k < ps.length), (ps.take (k + 1)).flatMap (gg x) = (ps.take k).flatMap (gg x) ++ gg x ps[k]) := Lib.hid (by rw [← hgg]; exact GS.out)
    have N30' : Hid (∀ (p : Pr), p.1 = s.a → s.k = 3 → ff p = ps.flatMap (gg p.2)) := Lib.hid (by rw [← hgg]; exact N30.out)
    clear hgg GO GLen GS N30
    obtain ⟨k, ⟨h1, h2⟩, who, ⟨s1, s2⟩, ⟨s3, s4⟩, via⟩ := s
    dsimp only at *
    have d1 : (k == 1) = false := by rw [beq_eq_false_iff_ne]; exact k1
    have HT0 := Lib.hid (show OneAt w #[.int .i64 k, .string h1, .string h2, .string who, .string s1, .string s2, .string s3, .string s4, .string via] (w.alloc (.cells #[.int .i64 k, .string h1, .string h2, .string who, .string s1, .string s2, .string s3, .string s4, .string via] 35)) from ⟨Blk.new w _ _, (Below.refl _ _).alloc (Nat.le_refl _) _⟩)
    go_enter Tryz.func92, Tryz.ntmps92
    go_wp2_with fail
    go_loopw [5, 18] (fun vo i wr => ∃ (n : Nat) (ys : List ByteArray), n ≤ ps.length ∧ i = .int .i64 n ∧ Hid (ys = (ps.take n).flatMap ff) ∧ Hid (OneAt w #[.int .i64 k, .string h1, .string h2, .string who, .string s1, .string s2, .string s3, .string s4, .string via] wr) ∧ Hid (wr.ownsRow (w.heap.size + 1) 9 1 vo ys.length (strs ys))) (fun _ i _ => ps.length - (intOf i).toNat)
    case atStart => exact ⟨0, [], by omega, rfl, Lib.hid rfl, HT0, Lib.hid (World.ownsRow_nil _ _ _ _)⟩
    case round =>
      clear HT0
      obtain ⟨n, ys, hnle, rfl, HE, HT, HO⟩ := hrel
      obtain ⟨oo, oc, rfl⟩ := own_form HO.out
      by_cases hlt : n < ps.length
      · obtain ⟨b1, o1, e1, he1, hc1, hm1', hb1, hx1⟩ := HA.out.pos (by omega)
        simp only [Value.slice.injEq, true_and] at he1
        obtain ⟨rfl, rfl⟩ := he1
        obtain ⟨p0, p1, p2⟩ := pr_cell (w := wr) (fun j u hu => (HT.out.low.cell (p := ⟨b1, o1 + j, none⟩) hb1).trans (hx1 j u hu)) n hlt
        have hbr : b1 < wr.heap.size := Nat.lt_of_lt_of_le hb1 HT.out.low.size
        have HS := Lib.hid (FS.out n hlt)
        have hyl : ys.length ≤ 2000 * 2001 := by
          have h3 := FLen.out n
          rw [← HE.out] at h3
          have h4 := List.length_take_le n ps
          have h5 : (ps.take n).length * (ps.length + 1) ≤ 2000 * 2001 := Nat.mul_le_mul (by omega) (by omega)
          omega
        clear hx1
        have hpm := List.getElem_mem hlt
        generalize ps[n] = p at *
        have M2 := Lib.hid (N2.out p)
        have M20 := Lib.hid (N20.out p)
        have M30 := Lib.hid (N30'.out p)
        have M40 := Lib.hid (N40.out p)
        have M50 := Lib.hid (N50.out p)
        clear hpm
        generalize ff p = fp at *
        obtain ⟨⟨y1, y2⟩, y3⟩ := p
        dsimp only at M2 M20 M30 M40
        have HX1 := Lib.hid (show XAt (wr.alloc (.cells #[.string y1, .string y2, .string y3] 120)) wr.heap.size y1 y2 y3 from heap_new1 _ _)
        have HT1 := Lib.hid (HT.out.alloc (.cells #[.string y1, .string y2, .string y3] 120))
        have HO1 := Lib.hid (HO.out.alloc (.cells #[.string y1, .string y2, .string y3] 120))
        obtain ⟨cs, fs, zs⟩ := HT.out.a
        cases he : eqRl ⟨y1, y2⟩ ⟨s1, s2⟩ with
        | false =>
          have HF := Lib.hid (M2.out (of_decide_eq_false he))
          clear M2 M20 M30 M40 M50
          go_wp2_with fail
          exact ⟨⟨n + 1, ys, by omega, by go_num, Lib.hid (by rw [HS.out, HF.out, HE.out]; simp), HT1, HO1⟩, by simp [intOf]; omega⟩
        | true =>
          have he' : (⟨y1, y2⟩ : Rl) = ⟨s1, s2⟩ := of_decide_eq_true he
          have M20 := Lib.hid (M20.out he')
          have M30 := Lib.hid (M30.out he')
          have M40 := Lib.hid (M40.out he')
          clear M2 he'
          by_cases k2 : k = 2
          · subst k2
            have HF := Lib.hid (M20.out rfl)
            clear M20 M30 M40 M50
            go_wp2_with (at_builtin; refine halt_ ?_)
            unfold Halt_
            refine app_own Tryz.underlying38 str_info rfl (by decide) (by decide) rfl _ _ rfl (w.heap.size + 1) rfl (HO1.out.alloc _) [.string y3] rfl (heap_new2 _ _ _) rfl (str1 _) ?_ ?_ ?_
            · omega
            · have := HT.out.low.size; simp; omega
            intro a' cap' w3 hown' hgrow
            obtain ⟨q1, q2⟩ := push_strF (x := y3) HT1.out HO1.out hown' hgrow
            have HO3 := Lib.hid q1
            have HT3 := Lib.hid q2
            obtain ⟨cs3, fs3, zs3⟩ := q2.a
            clear hown' hgrow q1 q2 cs fs zs
            go_wp2_with fail
            exact ⟨⟨n + 1, ys ++ [y3], by omega, by go_num, Lib.hid (by rw [HS.out, HF.out, HE.out]), HT3, HO3⟩, by simp [intOf]; omega⟩
          · have d2 : (k == 2) = false := by rw [beq_eq_false_iff_ne]; exact k2
            by_cases k4 : k = 4
            · subst k4
              have HF := Lib.hid (M40.out rfl)
              have INy := Lib.hid (IN.out y3)
              generalize hasP ps ⟨s3, s4⟩ y3 = t at *
              clear M20 M30 M40 M50
              go_wp2_with fail
              refine (INy.out _ HT1.out.low).mono ?_
              rintro e w2 ⟨rfl, hb⟩
              have HT2 := Lib.hid (HT1.out.later hb)
              have HO2 := Lib.hid (own_below HO1.out hb)
              have HX2 := Lib.hid (HX1.out.below hb)
              clear hb HT1 HO1 HX1 cs fs zs
              obtain ⟨cs, fs, zs⟩ := HT2.out.a
              obtain ⟨cx, fx, zx⟩ := HX2.out.blk
              cases t with
              | true =>
                go_wp2_with (at_builtin; refine halt_ ?_)
                unfold Halt_
                refine app_own Tryz.underlying38 str_info rfl (by decide) (by decide) rfl _ _ rfl (w.heap.size + 1) rfl (HO2.out.alloc _) [.string y3] rfl (heap_new1 _ _) rfl (str1 _) ?_ ?_ ?_
                · omega
                · have := HT2.out.low.size; simp; omega
                intro a' cap' w3 hown' hgrow
                obtain ⟨q1, q2⟩ := push_strF (x := y3) HT2.out HO2.out hown' hgrow
                have HO3 := Lib.hid q1
                have HT3 := Lib.hid q2
                obtain ⟨cs3, fs3, zs3⟩ := q2.a
                clear hown' hgrow q1 q2 cs fs zs cx fx zx
                go_wp2_with fail
                exact ⟨⟨n + 1, ys ++ [y3], by omega, by go_num, Lib.hid (by rw [HS.out, HF.out, HE.out]; simp), HT3, HO3⟩, by simp [intOf]; omega⟩
              | false =>
                go_wp2_with fail
                exact ⟨⟨n + 1, ys, by omega, by go_num, Lib.hid (by rw [HS.out, HF.out, HE.out]; simp), HT2, HO2⟩, by simp [intOf]; omega⟩
            · have d4 : (k == 4) = false := by rw [beq_eq_false_iff_ne]; exact k4
              by_cases k3 : k = 3
              · subst k3
                have HF := Lib.hid (M30.out rfl)
                have HGO := Lib.hid (GO'.out y3)
                have HGL := Lib.hid (GLen'.out y3)
                have HGS := Lib.hid (GS'.out y3)
                clear M20 M30 M40 M50 GO' GLen' GS'
                generalize gg y3 = g at *
                go_wp2_with fail
                have hx0 : wr.heap.size < (wr.alloc (.cells #[.string y1, .string y2, .string y3] 120)).heap.size := by simp
                generalize hxb : wr.heap.size = xb at *
                generalize hwa : wr.alloc (.cells #[.string y1, .string y2, .string y3] 120) = wa at *
                clear hwa hxb cs fs zs p0 p1 p2 HT HO
                go_loopw [5, 53] (fun vo i wr => ∃ (j : Nat) (zs : List ByteArray), j ≤ ps.length ∧ i = .int .i64 j ∧ Hid (zs = ys ++ (ps.take j).flatMap g) ∧ Hid (OneAt w #[.int .i64 3, .string h1, .string h2, .string who, .string s1, .string s2, .string s3, .string s4, .string via] wr) ∧ Hid (XAt wr xb y1 y2 y3) ∧ Hid (wr.ownsRow (w.heap.size + 1) 9 1 vo zs.length (strs zs))) (fun _ i _ => ps.length - (intOf i).toNat)
                case atStart => exact ⟨0, ys, by omega, rfl, Lib.hid (by simp), HT1, HX1, HO1⟩
                case round =>
                  clear HT1 HX1 HO1
                  obtain ⟨j, zs, hjle, rfl, HEj, HT, HX, HO⟩ := hrel
                  obtain ⟨oo, oc, rfl⟩ := own_form HO.out
                  obtain ⟨cs, fs, zs0⟩ := HT.out.a
                  obtain ⟨cx, fx, zx⟩ := HX.out.blk
                  by_cases hlj : j < ps.length
                  · obtain ⟨q0, q1, q2⟩ := pr_cell (w := wr) (fun j u hu => (HT.out.low.cell (p := ⟨b1, o1 + j, none⟩) hb1).trans ((HA.out.pos (by omega)).elim fun b2 h => h.elim fun o2 h => h.elim fun c2 h => by
                      have h0 := h.1
                      simp only [Value.slice.injEq, Option.some.injEq, Addr.mk.injEq, true_and] at h0
                      obtain ⟨⟨e1, e2, _⟩, _⟩ := h0
                      rw [e1, e2]
                      exact h.2.2.2.2 j u hu)) j hlj
                    have hbr2 : b1 < wr.heap.size := Nat.lt_of_lt_of_le hb1 HT.out.low.size
                    have HSj := Lib.hid (HGS.out j hlj)
                    have hzl : zs.length ≤ 2000 * 2001 + 2000 := by
                      have h3 := HGL.out j
                      have h4 := List.length_take_le j ps
                      rw [HEj.out, List.length_append]
                      omega
                    generalize ps[j] = q at *
                    have HGq := Lib.hid (HGO.out q)
                    generalize g q = gq at *
                    obtain ⟨⟨z1, z2⟩, z3⟩ := q
                    dsimp only at HGq
                    have HX1 := Lib.hid (HX.out.alloc (.cells #[.string z1, .string z2, .string z3] 120))
                    have HT1 := Lib.hid (HT.out.alloc (.cells #[.string z1, .string z2, .string z3] 120))
                    have HO1 := Lib.hid (HO.out.alloc (.cells #[.string z1, .string z2, .string z3] 120))
                    cases hz : eqRl ⟨z1, z2⟩ ⟨y3, via⟩ with
                    | true =>
                      have HGr := Lib.hid (HGq.out.trans (if_pos hz))
                      clear HGq
                      go_wp2_with (at_builtin; refine halt_ ?_)
                      unfold Halt_
                      refine app_own Tryz.underlying38 str_info rfl (by decide) (by decide) rfl _ _ rfl (w.heap.size + 1) rfl (HO1.out.alloc _) [.string z3] rfl (heap_new2 _ _ _) rfl (str1 _) ?_ ?_ ?_
                      · omega
                      · have := HT.out.low.size; simp; omega
                      intro a' cap' w3 hown' hgrow
                      have HX3 := Lib.hid ((HX1.out.alloc _).grown (HO1.out.alloc _) hgrow)
                      obtain ⟨r1, r2⟩ := push_strF (x := z3) HT1.out HO1.out hown' hgrow
                      have HO3 := Lib.hid r1
                      have HT3 := Lib.hid r2
                      clear hown' hgrow r1 r2 cs fs zs0 cx fx zx
                      go_wp2_with fail
                      exact ⟨⟨j + 1, zs ++ [z3], by omega, by go_num, Lib.hid (by rw [HSj.out, HGr.out, HEj.out, List.append_assoc]), HT3, HX3, HO3⟩, by simp [intOf]; omega⟩
                    | false =>
                      have HGr := Lib.hid (HGq.out.trans (if_neg (by rw [hz]; exact Bool.false_ne_true)))
                      clear HGq
                      go_wp2_with fail
                      exact ⟨⟨j + 1, zs, by omega, by go_num, Lib.hid (by rw [HSj.out, HGr.out, HEj.out]; simp), HT1, HX1, HO1⟩, by simp [intOf]; omega⟩
                  · have HEE := Lib.hid (show zs = (ps.take (n + 1)).flatMap ff by rw [HS.out, HF.out, ← HE.out, HEj.out, List.take_of_length_le (show ps.length ≤ j by omega)])
                    go_wp2_with fail
                    exact ⟨⟨n + 1, zs, by omega, by go_num, HEE, HT, HO⟩, by simp [intOf]; omega⟩
              · have d3 : (k == 3) = false := by rw [beq_eq_false_iff_ne]; exact k3
                have HF := Lib.hid (M50.out k2 k3 k4)
                clear M20 M30 M40 M50
                go_wp2_with fail
                exact ⟨⟨n + 1, ys, by omega, by go_num, Lib.hid (by rw [HS.out, HF.out, HE.out]; simp), HT1, HO1⟩, by simp [intOf]; omega⟩
      · have HRS := Lib.hid (show ys = ps.flatMap ff by rw [HE.out, List.take_of_length_le (show ps.length ≤ n by omega)])
        go_wp2
        go_ret
        exact ⟨_, rfl, by rw [← HRS.out]; exact own_baseF HO.out (Nat.le_succ _), HT.out.low⟩
end Go.Proofs.YtcmdhfccdkjenaaGreatDoor
namespace Go.Proofs.YtcmdhfccdkjenaaGreatDoor
open Go.RowKit Go.Shelf

theorem asc_uniqueN : ∀ (l m : List Nat), l.Pairwise (· < ·) → m.Pairwise (· < ·) → (∀ x, x ∈ l ↔ x ∈ m) → l = m
  | [], [], _, _, _ => rfl
  | [], b :: m, _, _, h => by have := (h b).2 (List.mem_cons_self ..); cases this
  | a :: l, [], _, _, h => by have := (h a).1 (List.mem_cons_self ..); cases this
  | a :: l, b :: m, hl, hm, h => by
    rw [List.pairwise_cons] at hl hm
    have e : a = b := by
      have h1 := (h a).1 (List.mem_cons_self ..)
      have h2 := (h b).2 (List.mem_cons_self ..)
      rcases List.mem_cons.1 h1 with h1 | h1
      · exact h1
      · rcases List.mem_cons.1 h2 with h2 | h2
        · exact h2.symm
        · have := hm.1 a h1; have := hl.1 b h2; omega
    subst e
    rw [asc_uniqueN l m hl.2 hm.2 (fun x => by
      have hx := h x
      simp only [List.mem_cons] at hx
      constructor
      · intro hxl
        rcases hx.1 (.inr hxl) with rfl | h'
        · have := hl.1 x hxl; omega
        · exact h'
      · intro hxm
        rcases hx.2 (.inr hxm) with rfl | h'
        · have := hm.1 x hxm; omega
        · exact h')]
/-- The bits of a word, rising. -/
def bitsOf (m : Nat) : List Nat := (List.range 64).filter (fun c => m.testBit c)
theorem bitsOf_asc (m : Nat) : (bitsOf m).Pairwise (· < ·) := List.Pairwise.filter _ List.pairwise_lt_range
theorem bitsOf_mem {m c : Nat} : c ∈ bitsOf m ↔ c < 64 ∧ m.testBit c = true := by unfold bitsOf; rw [List.mem_filter, List.mem_range]
theorem low_bit : ∀ (f m : Nat), 0 < m → m < 2 ^ f → m.testBit (Lib.ctzFrom f m) = true ∧ (∀ i, i < Lib.ctzFrom f m → m.testBit i = false) ∧ Lib.ctzFrom f m < f ∧ ∀ i, (m &&& (m - 1)).testBit i = (m.testBit i && decide (i ≠ Lib.ctzFrom f m))
  | 0, m, h0, h => by simp at h; omega
  | f + 1, m, h0, h => by
    unfold Lib.ctzFrom
    by_cases h1 : m % 2 = 1
    · rw [if_pos h1]
      have e0 : m.testBit 0 = true := by rw [Nat.testBit_zero]; exact decide_eq_true h1
      refine ⟨e0, fun i hi => absurd hi (by omega), by omega, fun i => ?_⟩
      rw [Nat.testBit_and]
      cases i with
      | zero =>
        have : (m - 1).testBit 0 = false := by rw [Nat.testBit_zero]; exact decide_eq_false (by omega)
        rw [this]; simp
      | succ i =>
        rw [Nat.testBit_succ, Nat.testBit_succ, show (m - 1) / 2 = m / 2 by omega]; simp
    · rw [if_neg h1]
      have hx : m / 2 < 2 ^ f := by rw [Nat.pow_succ] at h; omega
      obtain ⟨a1, a2, a3, a4⟩ := low_bit f (m / 2) (by omega) hx
      refine ⟨?_, ?_, by omega, fun i => ?_⟩
      · rw [Nat.add_comm, Nat.testBit_succ]; exact a1
      · intro i hi
        cases i with
        | zero => rw [Nat.testBit_zero]; exact decide_eq_false h1
        | succ i => rw [Nat.testBit_succ]; exact a2 i (by omega)
      · cases i with
        | zero =>
          rw [Nat.testBit_and, show m.testBit 0 = false by rw [Nat.testBit_zero]; exact decide_eq_false h1]; simp
        | succ i =>
          have := a4 i
          rw [Nat.testBit_and] at this ⊢
          rw [Nat.testBit_succ, Nat.testBit_succ, show (m - 1) / 2 = m / 2 - 1 by omega, this]
          congr 1
          simp only [ne_eq, decide_not]
          congr 1
          rw [decide_eq_decide]
          omega
theorem bits_step {m : Nat} (h0 : 0 < m) (h : m < 2 ^ 64) : bitsOf m = Lib.ctz 64 m :: bitsOf (m &&& (m - 1)) ∧ Lib.ctz 64 m < 64 ∧ (m &&& (m - 1)) < 2 ^ 64 := by
  obtain ⟨a1, a2, a3, a4⟩ := low_bit 64 m h0 h
  have e : Lib.ctz 64 m = Lib.ctzFrom 64 m := by unfold Lib.ctz; rw [if_neg (by omega)]
  rw [e]
  refine ⟨asc_uniqueN _ _ (bitsOf_asc _) ?_ ?_, a3, Nat.lt_of_le_of_lt Nat.and_le_left h⟩
  · rw [List.pairwise_cons]
    refine ⟨fun c hc => ?_, bitsOf_asc _⟩
    obtain ⟨_, hc⟩ := bitsOf_mem.1 hc
    rw [a4] at hc
    simp only [ne_eq, Bool.and_eq_true, decide_eq_true_eq] at hc
    have := a2 c
    have := hc.2
    by_cases hlt : c < Lib.ctzFrom 64 m
    · rw [a2 c hlt] at hc; cases hc.1
    · omega
  · intro c
    rw [List.mem_cons, bitsOf_mem, bitsOf_mem, a4]
    simp only [ne_eq, Bool.and_eq_true, decide_eq_true_eq]
    constructor
    · rintro ⟨h1, h2⟩
      by_cases e : c = Lib.ctzFrom 64 m
      · exact .inl e
      · exact .inr ⟨h1, h2, e⟩
    · rintro (rfl | ⟨h1, h2, _⟩)
      · exact ⟨a3, a1⟩
      · exact ⟨h1, h2⟩
theorem bitsOf_zero : bitsOf 0 = [] := by unfold bitsOf; simp
/-- A word that tells which of a row's numbers are in a set. -/
def wrdOf (fs : List (Nat × Nat)) (i m : Nat) : Prop := m < 2 ^ 64 ∧ ∀ c, m.testBit c = decide ((i, c) ∈ fs)
theorem wrdOf.nil (i : Nat) : wrdOf [] i 0 := ⟨by decide, fun c => by simp⟩
theorem wrdOf.other {fs : List (Nat × Nat)} {i m r c : Nat} (h : wrdOf fs i m) (hr : r ≠ i) : wrdOf (fs ++ [(r, c)]) i m := by
  refine ⟨h.1, fun d => ?_⟩
  rw [h.2, decide_eq_decide, List.mem_append, List.mem_singleton]
  constructor
  · exact .inl
  · rintro (h | h)
    · exact h
    · simp only [Prod.mk.injEq] at h; exact absurd h.1.symm hr
theorem wrdOf.put {fs : List (Nat × Nat)} {i m c : Nat} (h : wrdOf fs i m) (hc : c < 64) : wrdOf (fs ++ [(i, c)]) i (m ||| 2 ^ c) := by
  refine ⟨Nat.or_lt_two_pow h.1 (Nat.pow_lt_pow_right (by decide) hc), fun d => ?_⟩
  rw [Nat.testBit_or, h.2, Nat.testBit_two_pow]
  by_cases e : c = d
  · subst e; simp
  · have : (i, d) ≠ (i, c) := fun h => e (by simp only [Prod.mk.injEq, true_and] at h; exact h.symm)
    simp [e, this]
/-- The numbers that a row has, rising. -/
def colsOf (fs : List (Nat × Nat)) (i : Nat) : List Nat := (List.range 64).filter (fun c => decide ((i, c) ∈ fs))
theorem bits_cols {fs : List (Nat × Nat)} {i m : Nat} (h : wrdOf fs i m) : bitsOf m = colsOf fs i := by
  unfold bitsOf colsOf
  exact List.filter_congr (fun c _ => h.2 c)
theorem colsOf_mem {fs : List (Nat × Nat)} {i c : Nat} : c ∈ colsOf fs i ↔ c < 64 ∧ (i, c) ∈ fs := by unfold colsOf; rw [List.mem_filter, List.mem_range, decide_eq_true_iff]
theorem colsOf_asc (fs : List (Nat × Nat)) (i : Nat) : (colsOf fs i).Pairwise (· < ·) := List.Pairwise.filter _ List.pairwise_lt_range
theorem colsOf_len (fs : List (Nat × Nat)) (i : Nat) : (colsOf fs i).length ≤ 64 := by
  have := List.length_filter_le (fun c => decide ((i, c) ∈ fs)) (List.range 64)
  unfold colsOf
  simpa using this
/-- What the program's words come to. -/
theorem word_has {fs : List (Nat × Nat)} {i m c : Nat} (h : wrdOf fs i m) : (bits .and .u64 ((m : Int) / 2 ^ c) 1 == 1) = decide ((i, c) ∈ fs) := by
  have e : (m : Int) / 2 ^ c = ((m / 2 ^ c : Nat) : Int) := by rw [Int.natCast_ediv, Int.natCast_pow]; rfl
  have hb : m / 2 ^ c < 2 ^ 64 := Nat.lt_of_le_of_lt (Nat.div_le_self _ _) h.1
  rw [e, ← h.2 c, Nat.testBit_eq_decide_div_mod_eq]
  generalize m / 2 ^ c = q at *
  rw [and_one_u64 _ (by omega) (by omega)]
  by_cases h1 : q % 2 = 1
  · rw [decide_eq_true h1, beq_iff_eq]; omega
  · rw [decide_eq_false h1, beq_eq_false_iff_ne]; omega
end Go.Proofs.YtcmdhfccdkjenaaGreatDoor
namespace Go.Proofs.YtcmdhfccdkjenaaGreatDoor
open Go.RowKit Go.Shelf

/-- All blocks but those of X are as they were. -/
structure Kp (X : Nat → Prop) (w w' : World) : Prop where
  os : w'.os = w.os
  tape : w'.tape = w.tape
  output : w'.output = w.output
  size : w.heap.size ≤ w'.heap.size
  block : ∀ k, k < w.heap.size → ¬ X k → w'.heap[k]? = w.heap[k]?
section
variable {X Y : Nat → Prop} {w w1 w2 : World}
theorem Kp.refl (X : Nat → Prop) (w : World) : Kp X w w := ⟨rfl, rfl, rfl, Nat.le_refl _, fun _ _ _ => rfl⟩
theorem Kp.of_below (h : Below w.heap.size w w1) : Kp X w w1 := ⟨h.os, h.tape, h.output, h.size, fun k hk _ => h.block k hk⟩
theorem Kp.of_grown {r : Option Nat} (h : w.grownBy w1 r) (hr : ∀ b, some b = r → X b) : Kp X w w1 := ⟨h.os, h.tape, h.output, h.size, fun k hk hx => h.block k hk (fun e => hx (hr k e))⟩
theorem Kp.trans (h : Kp X w w1) (g : Kp Y w1 w2) (hxy : ∀ b, b < w.heap.size → Y b → X b) : Kp X w w2 :=
  ⟨g.os.trans h.os, g.tape.trans h.tape, g.output.trans h.output, Nat.le_trans h.size g.size, fun k hk hx => (g.block k (Nat.lt_of_lt_of_le hk h.size) (fun hy => hx (hxy k hk hy))).trans (h.block k hk hx)⟩
theorem Kp.below {n : Nat} (h : Kp X w w1) (hn : n ≤ w.heap.size) (hx : ∀ b, b < n → ¬ X b) : Below n w w1 := ⟨h.os, h.tape, h.output, h.size, fun k hk => h.block k (Nat.lt_of_lt_of_le hk hn) (hx k hk)⟩
theorem Kp.blk {b : Nat} {cs : Array Value} (h : Kp X w w1) (hb : Blk w b cs) (hx : ¬ X b) : Blk w1 b cs := by
  have e := h.block b hb.2.2 hx
  exact ⟨fun o => (World.cell?_of_block (a := ⟨b, o, none⟩) e).trans (hb.1 o), fun o => (World.frozen?_of_block (a := ⟨b, o, none⟩) e).trans (hb.2.1 o), Nat.lt_of_lt_of_le hb.2.2 h.size⟩
theorem Kp.own {base size n : Nat} {e : TypeId} {v : Value} {xs : List Value} (h : Kp X w w1) (ho : w.ownsRow base e size v n xs) (hx : ∀ g, v.ownBlock = some g → ¬ X g) : w1.ownsRow base e size v n xs := by
  refine ⟨ho.1, ?_⟩
  rcases ho.2 with h2 | ⟨g, cap, cur, rfl, hb, hg, hr⟩
  · exact .inl h2
  · exact .inr ⟨g, cap, cur, rfl, hb, (h.block g (Array.getElem?_eq_some_iff.1 hg).1 (hx g rfl)).trans hg, hr⟩
theorem Kp.set {b o : Nat} {v : Value} (hx : X b) : Kp X w (w.setCell ⟨b, o, none⟩ v) :=
  ⟨rfl, rfl, rfl, by simp [World.setCell], fun k _ hk => Below.heap_setCell _ _ _ _ (fun e => hk (by have e' : k = b := e; rw [e']; exact hx))⟩
theorem Kp.sub (h : Kp X w w1) (hxy : ∀ b, b < w.heap.size → X b → Y b) : Kp Y w w1 := ⟨h.os, h.tape, h.output, h.size, fun k hk hy => h.block k hk (fun hx => hy (hxy k hk hx))⟩
theorem Kp.drew (h : Kp X w w1) : Kp X w w1.drew := ⟨h.os, h.tape, h.output, h.size, h.block⟩
end
/-- A block of n cells that a function tells. -/
def arrOf (n : Nat) (f : Nat → Value) : Array Value := ((List.range n).map f).toArray
theorem arrOf_get (n : Nat) (f : Nat → Value) (i : Nat) : (arrOf n f)[i]? = if i < n then some (f i) else none := by
  unfold arrOf
  rw [List.getElem?_toArray, List.getElem?_map]
  by_cases h : i < n
  · rw [if_pos h, List.getElem?_eq_getElem (by simpa using h)]; simp
  · rw [if_neg h, List.getElem?_eq_none (by simpa using h)]; rfl
theorem arrOf_size (n : Nat) (f : Nat → Value) : (arrOf n f).size = n := by unfold arrOf; simp
theorem arrOf_set (n : Nat) (f : Nat → Value) (i : Nat) (v : Value) (hi : i < n) : (arrOf n f).setIfInBounds i v = arrOf n (fun j => if j = i then v else f j) := by
  apply Array.ext_getElem?
  intro j
  rw [Array.getElem?_setIfInBounds, arrOf_get, arrOf_get, arrOf_size]
  by_cases h : i = j
  · subst h; rw [if_pos rfl, if_pos hi, if_pos hi, if_pos rfl]
  · rw [if_neg h]
    by_cases hj : j < n
    · rw [if_pos hj, if_pos hj, if_neg (fun e => h e.symm)]
    · rw [if_neg hj, if_neg hj]
theorem arrOf_congr {n : Nat} {f g : Nat → Value} (h : ∀ i, i < n → f i = g i) : arrOf n f = arrOf n g := by
  apply Array.ext_getElem?
  intro j
  rw [arrOf_get, arrOf_get]
  by_cases hj : j < n
  · rw [if_pos hj, if_pos hj, h j hj]
  · rw [if_neg hj, if_neg hj]

/-- A family of sets of numbers below 64, in a world. -/
structure FamAt (w : World) (F W0 g0 rows cols : Nat) (fs : List (Nat × Nat)) : Prop where
  ff : Blk w F #[.int .i64 rows, .int .i64 cols, .slice (some ⟨W0, 0, none⟩) rows rows, .int .i64 fs.length]
  ww : Blk w W0 (arrOf rows (fun i => .slice (some ⟨g0 + i, 0, none⟩) 1 1))
  gg : ∀ i, i < rows → ∃ m : Nat, Blk w (g0 + i) #[.int .u64 m] ∧ wrdOf fs i m
  o1 : F < W0
  o2 : W0 < g0
  c64 : cols ≤ 64
  r64 : rows ≤ 4096
  rng : ∀ f ∈ fs, f.1 < rows ∧ f.2 < cols
  nodup : fs.Nodup
/-- The blocks that Add changes. -/
def famX (F g0 rows : Nat) (b : Nat) : Prop := b = F ∨ (g0 ≤ b ∧ b < g0 + rows)
theorem FamAt.kp {X : Nat → Prop} {w w' : World} {F W0 g0 rows cols : Nat} {fs : List (Nat × Nat)} (h : FamAt w F W0 g0 rows cols fs) (k : Kp X w w') (h1 : ¬ X F) (h2 : ¬ X W0) (h3 : ∀ i, i < rows → ¬ X (g0 + i)) : FamAt w' F W0 g0 rows cols fs :=
  ⟨k.blk h.ff h1, k.blk h.ww h2, fun i hi => by obtain ⟨m, hm, ho⟩ := h.gg i hi; exact ⟨m, k.blk hm (h3 i hi), ho⟩, h.o1, h.o2, h.c64, h.r64, h.rng, h.nodup⟩
theorem FamAt.below {w w' : World} {F W0 g0 rows cols : Nat} {fs : List (Nat × Nat)} (h : FamAt w F W0 g0 rows cols fs) (hb : Below w.heap.size w w') : FamAt w' F W0 g0 rows cols fs :=
  h.kp (Kp.of_below (X := fun _ => False) hb) id id (fun _ _ => id)
theorem fam_len {w : World} {F W0 g0 rows cols : Nat} {fs : List (Nat × Nat)} (h : FamAt w F W0 g0 rows cols fs) : fs.length ≤ rows * cols := by
  have h1 := nodup_le fs ((List.range rows).flatMap (fun i => (List.range cols).map (fun c => (i, c)))) h.nodup (fun f hf => by
    obtain ⟨a, b⟩ := h.rng f hf
    rw [List.mem_flatMap]
    exact ⟨f.1, List.mem_range.2 a, List.mem_map.2 ⟨f.2, List.mem_range.2 b, rfl⟩⟩)
  have h2 : ∀ l : List Nat, (l.flatMap (fun i => (List.range cols).map (fun c => (i, c)))).length = l.length * cols := by
    intro l
    induction l with
    | nil => simp
    | cons a r ih => rw [List.flatMap_cons, List.length_append, ih, List.length_map, List.length_range, List.length_cons, Nat.succ_mul, Nat.add_comm]
  rw [h2, List.length_range] at h1
  exact h1
end Go.Proofs.YtcmdhfccdkjenaaGreatDoor
namespace Go.Proofs.YtcmdhfccdkjenaaGreatDoor
open Go.RowKit Go.Shelf

section
variable {P : Program} {ops : Array Oper} {Q : Exit → Act → World → Prop} {md : Region.Mode} {S : World → Prop} {last : Nat}

/-- Operation j waits for operation i, at once or by way of others. -/
def underB (md : Region.Mode) (ops : Array Oper) : Nat → Nat → Nat → Bool
  | 0, _, _ => false
  | f + 1, j, i => match ops[j]? with
    | none => false
    | some o => o.after.any fun e => Region.binds md e && (e.on == i || underB md ops f e.on i)
/-- Of each operation that came up, all that it waits for came up. -/
def ClosedL (md : Region.Mode) (ops : Array Oper) (listed : Array Bool) : Prop :=
  ∀ j o, ops[j]? = some o → listed.getD j false = true → ∀ e ∈ o.after, Region.binds md e = true → listed.getD e.on false = true
def closedB (md : Region.Mode) (ops : Array Oper) (listed : Array Bool) : Bool :=
  (List.range ops.size).all fun j => !listed.getD j false || match ops[j]? with
    | some o => o.after.all fun e => !Region.binds md e || listed.getD e.on false
    | none => true
theorem closedB_spec {listed : Array Bool} (h : closedB md ops listed = true) : ClosedL md ops listed := by
  intro j o ho hl e he hb
  have h1 := List.all_eq_true.1 h j (List.mem_range.2 (Array.getElem?_eq_some_iff.1 ho).1)
  rw [hl, ho] at h1
  simp only [Bool.not_true, Bool.false_or] at h1
  have h2 := Array.all_eq_true_iff_forall_mem.1 h1 e he
  rw [hb] at h2
  simpa using h2
theorem under_listed {listed : Array Bool} (hc : ClosedL md ops listed) : ∀ (f j i : Nat), underB md ops f j i = true →
    (∀ o, ops[j]? = some o → ∀ e ∈ o.after, Region.binds md e = true → listed.getD e.on false = true) → listed.getD i false = true
  | 0, _, _, h, _ => by cases h
  | f + 1, j, i, h, hl => by
    unfold underB at h
    cases ho : ops[j]? with
    | none => rw [ho] at h; cases h
    | some o =>
      rw [ho] at h
      obtain ⟨e, he, hb⟩ := Array.any_eq_true'.1 h
      rw [Bool.and_eq_true, Bool.or_eq_true] at hb
      have h2 := hl o ho e he hb.1
      rcases hb.2 with h1 | h1
      · rw [← (beq_iff_eq.1 h1)]; exact h2
      · exact under_listed hc f e.on i h1 (fun o' ho' e' he' hb' => hc _ o' ho' h2 e' he' hb')
theorem closed_set {listed : Array Bool} {j : Nat} (hc : ClosedL md ops listed) (hj : j ∈ Region.ready md ops listed) : ClosedL md ops (listed.setIfInBounds j true) := by
  intro k o ho hl e he hb
  by_cases hk : k = j
  · subst hk
    obtain ⟨_, o', ho', hall⟩ := mem_ready.1 hj
    rw [ho] at ho'; cases ho'
    exact getD_set_true (hall e he hb)
  · rw [getD_set_ne false (Ne.symm hk)] at hl
    exact getD_set_true (hc k o ho hl e he hb)

/-- Whatever order is picked from here on; S holds behind each operation but the last one. -/
def wpAnyL (P : Program) (md : Region.Mode) (ops : Array Oper) (Q : Exit → Act → World → Prop) (S : World → Prop) (last : Nat) : Nat → Array Bool → Act → World → Prop
  | 0, listed, a, w => Region.ready md ops listed = [] ∧ Q .normal a w
  | fuel + 1, listed, a, w =>
    (Region.ready md ops listed = [] → Q .normal a w) ∧
    ∀ i ∈ Region.ready md ops listed, wpOp P ops Q i (fun a' w' => (i = last ∨ S w') ∧ wpAnyL P md ops Q S last fuel (listed.setIfInBounds i true) a' w') a w
theorem wpAny_of_l : ∀ (fuel : Nat) (listed : Array Bool) (a : Act) (w : World), wpAnyL P md ops Q S last fuel listed a w → wpAny P md ops Q fuel listed a w
  | 0, _, _, _, h => h
  | fuel + 1, _, _, _, h => ⟨h.1, fun i hi => wpOp_mono (fun a' w' h' => wpAny_of_l fuel _ a' w' h'.2) (h.2 i hi)⟩
theorem wpAnyL_first {i : Nat} {oi : Oper} {v : Value} (hi : ops[i]? = some oi) (hsel : ∀ (j : Nat) (o : Oper) cs b, ops[j]? = some o → o.op ≠ .select cs b)
    (hQ : ∀ c a w, Q (.panic c) (a.put oi.dst v) w → Q (.panic c) a w) (f : Nat) (hu : underB md ops f last i = true) :
    ∀ (fuel : Nat) (listed : Array Bool) (a : Act) (w : World), ClosedL md ops listed →
      (∀ j oj, ops[j]? = some oj → j ≠ i → listed.getD j true = false → (∀ e ∈ oj.after, Region.binds md e = true → e.on ≠ i) → oi.apart ops oj = true) →
      i ∈ Region.ready md ops listed → YieldsIf P ops S oi v a → S w →
      wpAnyL P md ops Q S last fuel (listed.setIfInBounds i true) (a.put oi.dst v) w → wpAnyL P md ops Q S last (fuel + 1) listed a w := by
  intro fuel
  induction fuel with
  | zero =>
    intro listed a w _ _ hr hy hS H
    refine ⟨fun h => (by rw [h] at hr; cases hr), fun j hj => ?_⟩
    by_cases hji : j = i
    · subst hji; exact hy.wpOp hi hS ⟨.inr hS, H⟩
    · have := ready_mono hj hji
      rw [H.1] at this
      cases this
  | succ fuel ih =>
    intro listed a w hc hfree hr hy hS H
    refine ⟨fun h => (by rw [h] at hr; cases hr), fun j hj => ?_⟩
    by_cases hji : j = i
    · subst hji; exact hy.wpOp hi hS ⟨.inr hS, H⟩
    · have h1 := H.2 j (ready_mono hj hji)
      obtain ⟨hjun, oj, hoj, hall⟩ := mem_ready.1 hj
      have hiun := (mem_ready.1 hr).1
      have noti : listed.getD i false = true → False := fun h1 => by
        rcases Nat.lt_or_ge i listed.size with h' | h'
        · simp [h'] at hiun h1; rw [hiun] at h1; cases h1
        · simp [Array.getElem?_eq_none h'] at h1
      have hnot : ∀ e ∈ oj.after, Region.binds md e = true → e.on ≠ i := fun e he hb heq => noti (heq ▸ hall e he hb)
      have hlast : j ≠ last := fun e => by
        subst e
        exact noti (under_listed hc _ _ _ hu (fun o ho e he hb => by rw [hoj] at ho; cases ho; exact hall e he hb))
      have h2 := wpOp_putIf hoj (hfree j oj hoj hji hjun hnot) (fun cs b => hsel i oi cs b hi) (fun cs b => hsel j oj cs b hoj) hQ hy h1
      have hfree' : ∀ k ok, ops[k]? = some ok → k ≠ i → (listed.setIfInBounds j true).getD k true = false →
          (∀ e ∈ ok.after, Region.binds md e = true → e.on ≠ i) → oi.apart ops ok = true := fun k ok hk hki hun hno => by
        refine hfree k ok hk hki ?_ hno
        by_cases hjk : j = k
        · subst hjk; exact hjun
        · rw [getD_set_ne true hjk] at hun; exact hun
      refine wpOp_mono (fun a' w' h3 => ⟨h3.2.1, ih (listed.setIfInBounds j true) a' w' (closed_set hc hj) hfree' (ready_mono hr (Ne.symm hji)) h3.1 (h3.2.1.resolve_left hlast) ?_⟩) h2
      rw [Array.setIfInBounds_comm _ _ hji]
      exact h3.2.2
theorem wpAnyL_done {listed : Array Bool} {a : Act} {w : World} (hr : Region.ready md ops listed = []) (h : Q .normal a w) :
    ∀ fuel, wpAnyL P md ops Q S last fuel listed a w
  | 0 => ⟨hr, h⟩
  | _ + 1 => ⟨fun _ => h, by rw [hr]; simp⟩
end

/-- The beginning. -/
theorem wp_region_last {P : Program} {Q : Exit → Act → World → Prop} {S : World → Prop} {l : List Oper} {id : Nat} {a : Act} {w : World} (last : Nat) (hm : P.follows .mixedOrders = true) (hS : S w.drew)
    (h : S w.drew → wpAnyL P .any l.toArray Q S last l.toArray.size (Array.replicate l.toArray.size false) a w.drew) : (Code.region id l.toArray true).wp P Q a w :=
  wp_region_any hm (wpAny_of_l _ _ _ _ (h hS))
theorem last_yes {P : Program} {md : Region.Mode} {S : World → Prop} {Q : Exit → Act → World → Prop} {fuel last : Nat} {listed : Array Bool} {a : Act} {w : World} {v : Value} {oi : Oper} {l : List Oper} (i : Nat) (hi : nthOp l i = some oi)
    (hs : Region.noSelect l.toArray = true) (hf : Region.free md l.toArray listed i = true) (hr : (Region.ready md l.toArray listed).contains i = true) (hu : underB md l.toArray l.length last i = true) (hc : closedB md l.toArray listed = true)
    (hQ : ∀ c a w, Q (.panic c) (a.put oi.dst v) w → Q (.panic c) a w) (hw : Region.wanted oi (yielded l.toArray a.tmps) = true) (hS : S w) (hy : ∀ w, S w → (execOp a.eval oi).run P w = .ok (.value v) w)
    (h : wpAnyL P md l.toArray Q S last fuel (listed.setIfInBounds i true) (a.put oi.dst v) w) : wpAnyL P md l.toArray Q S last (fuel + 1) listed a w := by
  have hi' : l.toArray[i]? = some oi := by rw [nthOp_get]; exact hi
  exact wpAnyL_first hi' (Region.noSelect_spec hs) hQ _ hu fuel listed a w (closedB_spec hc) (Region.free_spec hi' hf) (by simpa using hr) (Or.inl ⟨hw, hy⟩) hS h
theorem last_call {P : Program} {md : Region.Mode} {S : World → Prop} {Q : Exit → Act → World → Prop} {fuel last : Nat} {listed : Array Bool} {a : Act} {w : World} {oi : Oper} {l : List Oper} (i : Nat) (hi : nthOp l i = some oi)
    (hr : Region.ready md l.toArray listed = [i])
    (h : ∀ K' : Act → World → Prop, Shut (∀ a w, S w → (S w → wpAnyL P md l.toArray Q S last fuel (listed.setIfInBounds i true) a w) → K' a w) → if Region.wanted oi (yielded l.toArray a.tmps) = true then Oper.wp P oi a w K' Q else K' (a.put oi.dst undef) w) :
    wpAnyL P md l.toArray Q S last (fuel + 1) listed a w := by
  refine ⟨fun h0 => (by rw [hr] at h0; cases h0), ?_⟩
  rw [hr]
  intro j hj
  rw [List.mem_singleton] at hj
  subst hj
  exact wpOp_step (by rw [nthOp_get]; exact hi) (fun K' hK => h K' (fun a w hS hW => hK a w ⟨.inr hS, hW hS⟩))
/-- The last operation: behind it the region is at its end. -/
theorem last_end {P : Program} {md : Region.Mode} {S : World → Prop} {Q : Exit → Act → World → Prop} {fuel : Nat} {listed : Array Bool} {a : Act} {w : World} {oi : Oper} {l : List Oper} (i : Nat) (hi : nthOp l i = some oi)
    (hr : Region.ready md l.toArray listed = [i]) (hd : Region.ready md l.toArray (listed.setIfInBounds i true) = [])
    (h : ∀ K' : Act → World → Prop, Shut (∀ a w, Q .normal a w → K' a w) → if Region.wanted oi (yielded l.toArray a.tmps) = true then Oper.wp P oi a w K' Q else K' (a.put oi.dst undef) w) :
    wpAnyL P md l.toArray Q S i (fuel + 1) listed a w := by
  refine ⟨fun h0 => (by rw [hr] at h0; cases h0), ?_⟩
  rw [hr]
  intro j hj
  rw [List.mem_singleton] at hj
  subst hj
  exact wpOp_step (by rw [nthOp_get]; exact hi) (fun K' hK => h K' (fun a w hQ => hK a w ⟨.inl rfl, wpAnyL_done hd hQ _⟩))
end Go.Proofs.YtcmdhfccdkjenaaGreatDoor
