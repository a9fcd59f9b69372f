/- How statements stand: syn.Order, and the comparison that syn.Sort hands on. -/
import Derived.Test.YtmpanikeeeoikaaSynMore
import Derived.Deep.RegionHeld3
namespace Go.Proofs.Ytmpanikeeeoikaa
open Go.RowKit Go.Shelf

/-- The first of some numbers that is not 0. -/
def orL : List Int → Int
  | [] => 0
  | x :: r => if x = 0 then orL r else x
theorem orL_yes {x : Int} {r : List Int} (h : x = 0) : orL (x :: r) = orL r := if_pos h
theorem orL_no {x : Int} {r : List Int} (h : ¬ x = 0) : orL (x :: r) = x := if_neg h
def cmpI (x y : Int) : Int := if x < y then -1 else if y < x then 1 else 0
/-- How two statements stand. -/
def cmpSt (s t : St) : Int := orL [cmpR s.h t.h, cmpI s.k t.k, cmpS s.who t.who, cmpR s.a t.a, cmpR s.b t.b, cmpS s.via t.via]

theorem orL_at {l : List Int} {k : Nat} (h : k < l.length) : l.drop k = l[k] :: l.drop (k + 1) := List.drop_eq_getElem_cons h
theorem orL_end {l : List Int} {k : Nat} (h : ¬ k < l.length) : orL (l.drop k) = 0 := by
  rw [List.drop_eq_nil_of_le (by omega)]; rfl
set_option maxRecDepth 100000 in
set_option maxHeartbeats 1000000 in
theorem cmp_OrL (b n : Nat) (l : List Int) (w : World) (hn : n = l.length) (hm : n ≤ 1000) (h : ∀ i (hi : i < l.length), w.cell? ⟨b, i, none⟩ = some (.int .i64 l[i])) :
    Calls Try.prog 68 #[.slice (some ⟨b, 0, none⟩) n n] w fun e w' => e = .returned (.int .i64 (orL l)) ∧ w = w' := by
  have HH := Lib.hid h
  have HN := Lib.hid hn
  clear h hn
  go_enter Try.func68, Try.ntmps68
  go_wp2
  go_loop [8] (fun i => ∃ k : Nat, k ≤ n ∧ i = .int .i64 k ∧ Hid (orL l = orL (l.drop k))) (fun i => n - (intOf i).toNat)
  case atStart => exact ⟨0, by omega, rfl, Lib.hid (by simp)⟩
  case round =>
    obtain ⟨k, hk, rfl, HX⟩ := hrel
    by_cases hlt : k < n
    · have hl : k < l.length := by have := HN.out; omega
      have p := HH.out k hl
      have HD := Lib.hid (HX.out.trans (congrArg orL (orL_at hl)))
      have d : decide ((k : Int) < (n : Int)) = true := by (rw [decide_eq_true_iff]; omega)
      by_cases hz : l[k] = 0
      · have b1 : (l[k] != 0) = false := by simp [hz]
        have HE := Lib.hid (HD.out.trans (orL_yes hz))
        clear hz
        go_wp2
        exact ⟨⟨k + 1, by omega, by go_num, HE⟩, by simp [intOf]; omega⟩
      · have b1 : (l[k] != 0) = true := by simp [hz]
        have HE := Lib.hid (HD.out.trans (orL_no hz))
        clear hz
        go_wp2
        go_ret
        exact ⟨ret_int HE.out.symm, rfl⟩
    · have d : decide ((k : Int) < (n : Int)) = false := by (rw [decide_eq_false_iff_not]; omega)
      have HE := Lib.hid (HX.out.trans (orL_end (by have := HN.out; omega)))
      go_wp2
      go_ret
      exact ⟨ret_int HE.out.symm, rfl⟩

theorem cmp_nan (x : Int) (w : World) : Calls Try.prog 81 #[.int .i64 x] w fun e w' => e = .returned (.bool false) ∧ w = w' := by
  have d : (x != x) = false := by simp
  go_enter Try.func81, Try.ntmps81
  go_wp2
  go_ret
  exact ⟨rfl, rfl⟩
theorem cmpI_lt {x y : Int} (h : x < y) : cmpI x y = -1 := if_pos h
theorem cmpI_gt {x y : Int} (h : ¬ x < y) (h' : y < x) : cmpI x y = 1 := by unfold cmpI; rw [if_neg h, if_pos h']
theorem cmpI_eq {x y : Int} (h : ¬ x < y) (h' : ¬ y < x) : cmpI x y = 0 := by unfold cmpI; rw [if_neg h, if_neg h']
set_option maxHeartbeats 1000000 in
theorem cmp_Int (x y : Int) (w : World) : Calls Try.prog 70 #[.int .i64 x, .int .i64 y] w fun e w' => e = .returned (.int .i64 (cmpI x y)) ∧ w = w' := by
  have H := Lib.hid (fun z W => cmp_nan z W)
  by_cases h1 : x < y
  · have E := Lib.hid (cmpI_lt h1)
    have d1 : decide (x < y) = true := decide_eq_true h1
    clear h1
    go_enter Try.func70, Try.ntmps70
    go_wp2_with (go_at_call 81; refine (H.out _ _).mono ?_; rintro e w' ⟨rfl, rfl⟩)
    go_ret
    exact ⟨ret_int E.out.symm, rfl⟩
  · by_cases h2 : y < x
    · have E := Lib.hid (cmpI_gt h1 h2)
      have d1 : decide (x < y) = false := decide_eq_false h1
      have d2 : decide (y < x) = true := decide_eq_true h2
      clear h1 h2
      go_enter Try.func70, Try.ntmps70
      go_wp2_with (go_at_call 81; refine (H.out _ _).mono ?_; rintro e w' ⟨rfl, rfl⟩)
      go_ret
      exact ⟨ret_int E.out.symm, rfl⟩
    · have E := Lib.hid (cmpI_eq h1 h2)
      have d1 : decide (x < y) = false := decide_eq_false h1
      have d2 : decide (y < x) = false := decide_eq_false h2
      clear h1 h2
      go_enter Try.func70, Try.ntmps70
      go_wp2_with (go_at_call 81; refine (H.out _ _).mono ?_; rintro e w' ⟨rfl, rfl⟩)
      go_ret
      exact ⟨ret_int E.out.symm, rfl⟩

/-- A call that makes memory, and draws, and does nothing else. -/
structure Gr (w w' : World) : Prop where
  below : Below w.heap.size w w'
  drawn : w.drawn ≤ w'.drawn
theorem Gr.refl (w : World) : Gr w w := ⟨Below.refl _ _, Nat.le_refl _⟩
theorem Gr.trans {w w1 w2 : World} (h : Gr w w1) (h' : Gr w1 w2) : Gr w w2 := ⟨h.below.trans (h'.below.mono h.below.size), Nat.le_trans h.drawn h'.drawn⟩
theorem Gr.alloc {w w1 : World} (h : Gr w w1) (o : Obj) : Gr w (w1.alloc o) := ⟨h.below.alloc h.below.size o, h.drawn⟩
theorem Gr.drewN {w w1 : World} (h : Gr w w1) (n : Nat) : Gr w (w1.drewN n) := ⟨below_drewN h.below n, Nat.le_trans h.drawn (Nat.le_add_right _ _)⟩
theorem Gr.drew {w w1 : World} (h : Gr w w1) : Gr w w1.drew := ⟨below_drew h.below, Nat.le_trans h.drawn (Nat.le_add_right _ _)⟩

set_option maxRecDepth 100000 in
set_option maxHeartbeats 1000000 in
theorem syn_orderG (x y : Rl) (w : World) : Calls Try.prog 69 #[rv x, rv y] w fun e w' => e = .returned (.int .i64 (cmpR x y)) ∧ Gr w w' := by
  obtain ⟨a, b⟩ := x
  obtain ⟨c, d⟩ := y
  go_enter Try.func69, Try.ntmps69
  go_wp2_with fail
  refine region_tail 10 (by kernel_rfl) (by kernel_rfl) ?_
  simp only [List.take_succ_cons, List.take_zero, List.drop_succ_cons, List.drop_zero]
  repeat still_step
  still_call (cmp_call a c _)
  repeat still_step
  still_call (cmp_call b d _)
  repeat still_step
  refine wpStill_nil ?_
  have E := Lib.hid (show cmpR ⟨a, b⟩ ⟨c, d⟩ = orI (cmpS a c) (cmpS b d) from rfl)
  generalize cmpS a c = p at E ⊢
  generalize cmpS b d = q at E ⊢
  go_wp2_with fail
  refine (cmp_Or2 _ p q _ (by simp [go_sem]) (by simp [go_sem])).mono ?_
  rintro e w' ⟨rfl, rfl⟩
  go_wp2
  go_ret
  exact ⟨ret_int (by rw [E.out]), ((((Gr.refl _).alloc _).alloc _).alloc _).drewN 1⟩

set_option maxRecDepth 100000 in
set_option maxHeartbeats 4000000 in
theorem syn_Order (s t : St) (w : World) : Calls Try.prog 48 #[sv s, sv t] w fun e w' => e = .returned (.int .i64 (cmpSt s t)) ∧ Gr w w' := by
  obtain ⟨k, ⟨h1, h2⟩, who, ⟨a1, a2⟩, ⟨b1, b2⟩, via⟩ := s
  obtain ⟨k', ⟨h1', h2'⟩, who', ⟨a1', a2'⟩, ⟨b1', b2'⟩, via'⟩ := t
  have A1 := fun W => syn_orderG ⟨h1, h2⟩ ⟨h1', h2'⟩ W
  have A2 := fun W => cmp_Int k k' W
  have A3 := fun W => cmp_call who who' W
  have A4 := fun W => syn_orderG ⟨a1, a2⟩ ⟨a1', a2'⟩ W
  have A5 := fun W => syn_orderG ⟨b1, b2⟩ ⟨b1', b2'⟩ W
  have A6 := fun W => cmp_call via via' W
  have E := Lib.hid (show cmpSt ⟨k, ⟨h1, h2⟩, who, ⟨a1, a2⟩, ⟨b1, b2⟩, via⟩ ⟨k', ⟨h1', h2'⟩, who', ⟨a1', a2'⟩, ⟨b1', b2'⟩, via'⟩ = orL [cmpR ⟨h1, h2⟩ ⟨h1', h2'⟩, cmpI k k', cmpS who who', cmpR ⟨a1, a2⟩ ⟨a1', a2'⟩, cmpR ⟨b1, b2⟩ ⟨b1', b2'⟩, cmpS via via'] from rfl)
  generalize cmpR ⟨h1, h2⟩ ⟨h1', h2'⟩ = p1 at A1 E
  generalize cmpI k k' = p2 at A2 E
  generalize cmpS who who' = p3 at A3 E
  generalize cmpR ⟨a1, a2⟩ ⟨a1', a2'⟩ = p4 at A4 E
  generalize cmpR ⟨b1, b2⟩ ⟨b1', b2'⟩ = p5 at A5 E
  generalize cmpS via via' = p6 at A6 E
  go_enter Try.func48, Try.ntmps48
  go_upto_region 1 with fail
  have HA : Blk (((w.alloc (.cells #[.int .i64 k, .string h1, .string h2, .string who, .string a1, .string a2, .string b1, .string b2, .string via] 30)).alloc (.cells #[.int .i64 k', .string h1', .string h2', .string who', .string a1', .string a2', .string b1', .string b2', .string via'] 30)).drew) w.heap.size #[.int .i64 k, .string h1, .string h2, .string who, .string a1, .string a2, .string b1, .string b2, .string via] := (Blk.new w _ _).alloc _
  have HB : Blk (((w.alloc (.cells #[.int .i64 k, .string h1, .string h2, .string who, .string a1, .string a2, .string b1, .string b2, .string via] 30)).alloc (.cells #[.int .i64 k', .string h1', .string h2', .string who', .string a1', .string a2', .string b1', .string b2', .string via'] 30)).drew) (w.heap.size + 1) #[.int .i64 k', .string h1', .string h2', .string who', .string a1', .string a2', .string b1', .string b2', .string via'] := by
    have := Blk.new (w.alloc (.cells #[.int .i64 k, .string h1, .string h2, .string who, .string a1, .string a2, .string b1, .string b2, .string via] 30)) #[.int .i64 k', .string h1', .string h2', .string who', .string a1', .string a2', .string b1', .string b2', .string via'] 30
    simp only [World.size_alloc] at this
    exact this
  have HG : Gr w (((w.alloc (.cells #[.int .i64 k, .string h1, .string h2, .string who, .string a1, .string a2, .string b1, .string b2, .string via] 30)).alloc (.cells #[.int .i64 k', .string h1', .string h2', .string who', .string a1', .string a2', .string b1', .string b2', .string via'] 30)).drew) := (((Gr.refl w).alloc _).alloc _).drew
  go_region_held3 (fun W => (∀ o, W.cell? ⟨w.heap.size, o, none⟩ = (#[.int .i64 k, .string h1, .string h2, .string who, .string a1, .string a2, .string b1, .string b2, .string via] : Array Value)[o]?) ∧ (∀ o, W.cell? ⟨w.heap.size + 1, o, none⟩ = (#[.int .i64 k', .string h1', .string h2', .string who', .string a1', .string a2', .string b1', .string b2', .string via'] : Array Value)[o]?))
    (first | exact ⟨HA.1, HB.1⟩ | exact ⟨(HA.alloc _).1, (HB.alloc _).1⟩ | go_keep)
    (first
      | (go_at_call_of 69 (Value.agg #[.string h1, .string h2]); refine (A1 _).mono ?_; rintro e wq ⟨rfl, hg⟩; have HG := HG.trans hg; have HA := HA.below hg.below; have HB := HB.below hg.below; have cq1 := HA.1; have cq2 := HB.1)
      | (go_at_call_of 69 (Value.agg #[.string a1, .string a2]); refine (A4 _).mono ?_; rintro e wq ⟨rfl, hg⟩; have HG := HG.trans hg; have HA := HA.below hg.below; have HB := HB.below hg.below; have cq1 := HA.1; have cq2 := HB.1)
      | (go_at_call_of 69 (Value.agg #[.string b1, .string b2]); refine (A5 _).mono ?_; rintro e wq ⟨rfl, hg⟩; have HG := HG.trans hg; have HA := HA.below hg.below; have HB := HB.below hg.below; have cq1 := HA.1; have cq2 := HB.1)
      | (go_at_call_of 70 (Value.int .i64 k); refine (A2 _).mono ?_; rintro e wq ⟨rfl, rfl⟩; have cq1 := HA.1; have cq2 := HB.1)
      | (go_at_call_of 71 (Value.string who); refine (A3 _).mono ?_; rintro e wq ⟨rfl, rfl⟩; have cq1 := HA.1; have cq2 := HB.1)
      | (go_at_call_of 71 (Value.string via); refine (A6 _).mono ?_; rintro e wq ⟨rfl, rfl⟩; have cq1 := HA.1; have cq2 := HB.1)
      | (go_at_call 68; refine (cmp_OrL _ 6 [p1, p2, p3, p4, p5, p6] _ rfl (Nat.le_of_ble_eq_true rfl) ?_).mono ?_; (intro i hi; rcases i with _ | _ | _ | _ | _ | _ | i <;> simp [go_sem] <;> (simp at hi; omega)); rintro e wq ⟨rfl, rfl⟩))
  go_wp2
  go_ret
  exact ⟨ret_int E.out.symm, HG.alloc _⟩

/-- The comparison that syn.Sort hands on. -/
theorem syn_Sort1 (s t : St) (w : World) : Calls Try.prog 63 #[sv s, sv t] w fun e w' => e = .returned (.int .i64 (cmpSt s t)) ∧ Gr w w' := by
  have A := Lib.hid (fun W => syn_Order s t W)
  generalize cmpSt s t = c at A ⊢
  obtain ⟨k, ⟨h1, h2⟩, who, ⟨a1, a2⟩, ⟨b1, b2⟩, via⟩ := s
  obtain ⟨k', ⟨h1', h2'⟩, who', ⟨a1', a2'⟩, ⟨b1', b2'⟩, via'⟩ := t
  go_enter Try.func63, Try.ntmps63
  go_wp2_with (go_at_call 48; refine (A.out _).mono ?_; rintro e w1 ⟨rfl, hg⟩)
  go_ret
  exact ⟨rfl, (((Gr.refl w).alloc _).alloc _).trans hg⟩
end Go.Proofs.Ytmpanikeeeoikaa
