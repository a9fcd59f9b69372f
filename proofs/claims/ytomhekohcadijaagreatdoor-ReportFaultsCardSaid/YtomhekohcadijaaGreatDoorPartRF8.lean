/- How statements stand: syn.Order, and the comparison that syn.Sort hands on. Plain laws: a comparison turned round. Plain laws of the order of statements: it is a total one, and two rows in strict order that hold the same are the same. syn.Roles, the reference's Normal, Print, SameRoles. -/
import Derived.Test.YtomhekohcadijaaGreatDoorPartRF6
import Derived.Deep.RegionHeld3
import Derived.Test.YtomhekohcadijaaGreatDoorPartRF2
namespace Go.Proofs.YtomhekohcadijaaGreatDoor
open Go.RowKit Go.Shelf

def orL : List Int → Int
  | [] => 0
  | x :: r => if x = 0 then orL r else x
theorem orL_yes {x : Int} {r : List Int} (h : x = 0) : orL (x :: r) = orL r := if_pos h
theorem orL_no {x : Int} {r : List Int} (h : ¬ x = 0) : orL (x :: r) = x := if_neg h
def cmpI (x y : Int) : Int := if x < y then -1 else if y < x then 1 else 0
def cmpSt (s t : St) : Int := orL [cmpR s.h t.h, cmpI s.k t.k, cmpS s.who t.who, cmpR s.a t.a, cmpR s.b t.b, cmpS s.via t.via]

theorem orL_at {l : List Int} {k : Nat} (h : k < l.length) : l.drop k = l[k] :: l.drop (k + 1) := List.drop_eq_getElem_cons h
theorem orL_end {l : List Int} {k : Nat} (h : ¬ k < l.length) : orL (l.drop k) = 0 := by
  rw [List.drop_eq_nil_of_le (by omega)]; rfl
set_option maxRecDepth 100000 in
set_option maxHeartbeats 1000000 in
theorem cmp_OrL (b n : Nat) (l : List Int) (w : World) (hn : n = l.length) (hm : n ≤ 1000) (h : ∀ i (hi : i < l.length), w.cell? ⟨b, i, none⟩ = some (.int .i64 l[i])) :
    Calls Tryz.prog 160 #[.slice (some ⟨b, 0, none⟩) n n] w fun e w' => e = .returned (.int .i64 (orL l)) ∧ w = w' := by
  have HH := Lib.hid h
  have HN := Lib.hid hn
  clear h hn
  go_enter Tryz.func160, Tryz.ntmps160
  go_wp2
  go_loop [8] (fun i => ∃ k : Nat, k ≤ n ∧ i = .int .i64 k ∧ Hid (orL l = orL (l.drop k))) (fun i => n - (intOf i).toNat)
  case atStart => exact ⟨0, by omega, rfl, Lib.hid (by simp)⟩
  case round =>
    obtain ⟨k, hk, rfl, HX⟩ := hrel
    by_cases hlt : k < n
    · have hl : k < l.length := by have := HN.out; omega
      have p := HH.out k hl
      have HD := Lib.hid (HX.out.trans (congrArg orL (orL_at hl)))
      have d : decide ((k : Int) < (n : Int)) = true := by (rw [decide_eq_true_iff]; omega)
      by_cases hz : l[k] = 0
      · have b1 : (l[k] != 0) = false := by simp [hz]
        have HE := Lib.hid (HD.out.trans (orL_yes hz))
        clear hz
        go_wp2
        exact ⟨⟨k + 1, by omega, by go_num, HE⟩, by simp [intOf]; omega⟩
      · have b1 : (l[k] != 0) = true := by simp [hz]
        have HE := Lib.hid (HD.out.trans (orL_no hz))
        clear hz
        go_wp2
        go_ret
        exact ⟨ret_int HE.out.symm, rfl⟩
    · have d : decide ((k : Int) < (n : Int)) = false := by (rw [decide_eq_false_iff_not]; omega)
      have HE := Lib.hid (HX.out.trans (orL_end (by have := HN.out; omega)))
      go_wp2
      go_ret
      exact ⟨ret_int HE.out.symm, rfl⟩

theorem cmp_nan (x : Int) (w : World) : Calls Tryz.prog 225 #[.int .i64 x] w fun e w' => e = .returned (.bool false) ∧ w = w' := by
  have d : (x != x) = false := by simp
  go_enter Tryz.func225, Tryz.ntmps225
  go_wp2
  go_ret
  exact ⟨rfl, rfl⟩
theorem cmpI_lt {x y : Int} (h : x < y) : cmpI x y = -1 := if_pos h
theorem cmpI_gt {x y : Int} (h : ¬ x < y) (h' : y < x) : cmpI x y = 1 := by unfold cmpI; rw [if_neg h, if_pos h']
theorem cmpI_eq {x y : Int} (h : ¬ x < y) (h' : ¬ y < x) : cmpI x y = 0 := by unfold cmpI; rw [if_neg h, if_neg h']
set_option maxHeartbeats 1000000 in
theorem cmp_Int (x y : Int) (w : World) : Calls Tryz.prog 162 #[.int .i64 x, .int .i64 y] w fun e w' => e = .returned (.int .i64 (cmpI x y)) ∧ w = w' := by
  have H := Lib.hid (fun z W => cmp_nan z W)
  by_cases h1 : x < y
  · have E := Lib.hid (cmpI_lt h1)
    have d1 : decide (x < y) = true := decide_eq_true h1
    clear h1
    go_enter Tryz.func162, Tryz.ntmps162
    go_wp2_with (go_at_call 225; refine (H.out _ _).mono ?_; rintro e w' ⟨rfl, rfl⟩)
    go_ret
    exact ⟨ret_int E.out.symm, rfl⟩
  · by_cases h2 : y < x
    · have E := Lib.hid (cmpI_gt h1 h2)
      have d1 : decide (x < y) = false := decide_eq_false h1
      have d2 : decide (y < x) = true := decide_eq_true h2
      clear h1 h2
      go_enter Tryz.func162, Tryz.ntmps162
      go_wp2_with (go_at_call 225; refine (H.out _ _).mono ?_; rintro e w' ⟨rfl, rfl⟩)
      go_ret
      exact ⟨ret_int E.out.symm, rfl⟩
    · have E := Lib.hid (cmpI_eq h1 h2)
      have d1 : decide (x < y) = false := decide_eq_false h1
      have d2 : decide (y < x) = false := decide_eq_false h2
      clear h1 h2
      go_enter Tryz.func162, Tryz.ntmps162
      go_wp2_with (go_at_call 225; refine (H.out _ _).mono ?_; rintro e w' ⟨rfl, rfl⟩)
      go_ret
      exact ⟨ret_int E.out.symm, rfl⟩

structure Gr (w w' : World) : Prop where
  below : Below w.heap.size w w'
  drawn : w.drawn ≤ w'.drawn
theorem Gr.refl (w : World) : Gr w w := ⟨Below.refl _ _, Nat.le_refl _⟩
theorem Gr.trans {w w1 w2 : World} (h : Gr w w1) (h' : Gr w1 w2) : Gr w w2 := ⟨h.below.trans (h'.below.mono h.below.size), Nat.le_trans h.drawn h'.drawn⟩
theorem Gr.alloc {w w1 : World} (h : Gr w w1) (o : Obj) : Gr w (w1.alloc o) := ⟨h.below.alloc h.below.size o, h.drawn⟩
theorem Gr.drewN {w w1 : World} (h : Gr w w1) (n : Nat) : Gr w (w1.drewN n) := ⟨below_drewN h.below n, Nat.le_trans h.drawn (Nat.le_add_right _ _)⟩
theorem Gr.drew {w w1 : World} (h : Gr w w1) : Gr w w1.drew := ⟨below_drew h.below, Nat.le_trans h.drawn (Nat.le_add_right _ _)⟩

set_option maxRecDepth 100000 in
set_option maxHeartbeats 1000000 in
theorem syn_orderG (x y : Rl) (w : World) : Calls Tryz.prog 161 #[rv x, rv y] w fun e w' => e = .returned (.int .i64 (cmpR x y)) ∧ Gr w w' := by
  obtain ⟨a, b⟩ := x
  obtain ⟨c, d⟩ := y
  go_enter Tryz.func161, Tryz.ntmps161
  go_wp2_with fail
  refine region_tail 10 (by kernel_rfl) (by kernel_rfl) ?_
  simp only [List.take_succ_cons, List.take_zero, List.drop_succ_cons, List.drop_zero]
  repeat still_step
  still_call (cmp_call a c _)
  repeat still_step
  still_call (cmp_call b d _)
  repeat still_step
  refine wpStill_nil ?_
  have E := Lib.hid (show cmpR ⟨a, b⟩ ⟨c, d⟩ = orI (cmpS a c) (cmpS b d) from rfl)
  generalize cmpS a c = p at E ⊢
  generalize cmpS b d = q at E ⊢
  go_wp2_with fail
  refine (cmp_Or2 _ p q _ (by simp [go_sem]) (by simp [go_sem])).mono ?_
  rintro e w' ⟨rfl, rfl⟩
  go_wp2
  go_ret
  exact ⟨ret_int (by rw [E.out]), ((((Gr.refl _).alloc _).alloc _).alloc _).drewN 1⟩

set_option maxRecDepth 100000 in
set_option maxHeartbeats 4000000 in
theorem syn_Order (s t : St) (w : World) : Calls Tryz.prog 107 #[sv s, sv t] w fun e w' => e = .returned (.int .i64 (cmpSt s t)) ∧ Gr w w' := by
  obtain ⟨k, ⟨h1, h2⟩, who, ⟨a1, a2⟩, ⟨b1, b2⟩, via⟩ := s
  obtain ⟨k', ⟨h1', h2'⟩, who', ⟨a1', a2'⟩, ⟨b1', b2'⟩, via'⟩ := t
  have A1 := fun W => syn_orderG ⟨h1, h2⟩ ⟨h1', h2'⟩ W
  have A2 := fun W => cmp_Int k k' W
  have A3 := fun W => cmp_call who who' W
  have A4 := fun W => syn_orderG ⟨a1, a2⟩ ⟨a1', a2'⟩ W
  have A5 := fun W => syn_orderG ⟨b1, b2⟩ ⟨b1', b2'⟩ W
  have A6 := fun W => cmp_call via via' W
  have E := Lib.hid (show cmpSt ⟨k, ⟨h1, h2⟩, who, ⟨a1, a2⟩, ⟨b1, b2⟩, via⟩ ⟨k', ⟨h1', h2'⟩, who', ⟨a1', a2'⟩, ⟨b1', b2'⟩, via'⟩ = orL [cmpR ⟨h1, h2⟩ ⟨h1', h2'⟩, cmpI k k', cmpS who who', cmpR ⟨a1, a2⟩ ⟨a1', a2'⟩, cmpR ⟨b1, b2⟩ ⟨b1', b2'⟩, cmpS via via'] from rfl)
  generalize cmpR ⟨h1, h2⟩ ⟨h1', h2'⟩ = p1 at A1 E
  generalize cmpI k k' = p2 at A2 E
  generalize cmpS who who' = p3 at A3 E
  generalize cmpR ⟨a1, a2⟩ ⟨a1', a2'⟩ = p4 at A4 E
  generalize cmpR ⟨b1, b2⟩ ⟨b1', b2'⟩ = p5 at A5 E
  generalize cmpS via via' = p6 at A6 E
  go_enter Tryz.func107, Tryz.ntmps107
  go_upto_region 1 with fail
  have HA : Blk (((w.alloc (.cells #[.int .i64 k, .string h1, .string h2, .string who, .string a1, .string a2, .string b1, .string b2, .string via] 80)).alloc (.cells #[.int .i64 k', .string h1', .string h2', .string who', .string a1', .string a2', .string b1', .string b2', .string via'] 80)).drew) w.heap.size #[.int .i64 k, .string h1, .string h2, .string who, .string a1, .string a2, .string b1, .string b2, .string via] := (Blk.new w _ _).alloc _
  have HB : Blk (((w.alloc (.cells #[.int .i64 k, .string h1, .string h2, .string who, .string a1, .string a2, .string b1, .string b2, .string via] 80)).alloc (.cells #[.int .i64 k', .string h1', .string h2', .string who', .string a1', .string a2', .string b1', .string b2', .string via'] 80)).drew) (w.heap.size + 1) #[.int .i64 k', .string h1', .string h2', .string who', .string a1', .string a2', .string b1', .string b2', .string via'] := by
    have := Blk.new (w.alloc (.cells #[.int .i64 k, .string h1, .string h2, .string who, .string a1, .string a2, .string b1, .string b2, .string via] 80)) #[.int .i64 k', .string h1', .string h2', .string who', .string a1', .string a2', .string b1', .string b2', .string via'] 80
    simp only [World.size_alloc] at this
    exact this
  have HG : Gr w (((w.alloc (.cells #[.int .i64 k, .string h1, .string h2, .string who, .string a1, .string a2, .string b1, .string b2, .string via] 80)).alloc (.cells #[.int .i64 k', .string h1', .string h2', .string who', .string a1', .string a2', .string b1', .string b2', .string via'] 80)).drew) := (((Gr.refl w).alloc _).alloc _).drew
  go_region_held3 (fun W => (∀ o, W.cell? ⟨w.heap.size, o, none⟩ = (#[.int .i64 k, .string h1, .string h2, .string who, .string a1, .string a2, .string b1, .string b2, .string via] : Array Value)[o]?) ∧ (∀ o, W.cell? ⟨w.heap.size + 1, o, none⟩ = (#[.int .i64 k', .string h1', .string h2', .string who', .string a1', .string a2', .string b1', .string b2', .string via'] : Array Value)[o]?))
    (first | exact ⟨HA.1, HB.1⟩ | exact ⟨(HA.alloc _).1, (HB.alloc _).1⟩ | go_keep)
    (first
      | (go_at_call_of 161 (Value.agg #[.string h1, .string h2]); refine (A1 _).mono ?_; rintro e wq ⟨rfl, hg⟩; have HG := HG.trans hg; have HA := HA.below hg.below; have HB := HB.below hg.below; have cq1 := HA.1; have cq2 := HB.1)
      | (go_at_call_of 161 (Value.agg #[.string a1, .string a2]); refine (A4 _).mono ?_; rintro e wq ⟨rfl, hg⟩; have HG := HG.trans hg; have HA := HA.below hg.below; have HB := HB.below hg.below; have cq1 := HA.1; have cq2 := HB.1)
      | (go_at_call_of 161 (Value.agg #[.string b1, .string b2]); refine (A5 _).mono ?_; rintro e wq ⟨rfl, hg⟩; have HG := HG.trans hg; have HA := HA.below hg.below; have HB := HB.below hg.below; have cq1 := HA.1; have cq2 := HB.1)
      | (go_at_call_of 162 (Value.int .i64 k); refine (A2 _).mono ?_; rintro e wq ⟨rfl, rfl⟩; have cq1 := HA.1; have cq2 := HB.1)
      | (go_at_call_of 163 (Value.string who); refine (A3 _).mono ?_; rintro e wq ⟨rfl, rfl⟩; have cq1 := HA.1; have cq2 := HB.1)
      | (go_at_call_of 163 (Value.string via); refine (A6 _).mono ?_; rintro e wq ⟨rfl, rfl⟩; have cq1 := HA.1; have cq2 := HB.1)
      | (go_at_call 160; refine (cmp_OrL _ 6 [p1, p2, p3, p4, p5, p6] _ rfl (Nat.le_of_ble_eq_true rfl) ?_).mono ?_; (intro i hi; rcases i with _ | _ | _ | _ | _ | _ | i <;> simp [go_sem] <;> (simp at hi; omega)); rintro e wq ⟨rfl, rfl⟩))
  go_wp2
  go_ret
  exact ⟨ret_int E.out.symm, HG.alloc _⟩

theorem syn_Sort1 (s t : St) (w : World) : Calls Tryz.prog 192 #[sv s, sv t] w fun e w' => e = .returned (.int .i64 (cmpSt s t)) ∧ Gr w w' := by
  have A := Lib.hid (fun W => syn_Order s t W)
  generalize cmpSt s t = c at A ⊢
  obtain ⟨k, ⟨h1, h2⟩, who, ⟨a1, a2⟩, ⟨b1, b2⟩, via⟩ := s
  obtain ⟨k', ⟨h1', h2'⟩, who', ⟨a1', a2'⟩, ⟨b1', b2'⟩, via'⟩ := t
  go_enter Tryz.func192, Tryz.ntmps192
  go_wp2_with (go_at_call 107; refine (A.out _).mono ?_; rintro e w1 ⟨rfl, hg⟩)
  go_ret
  exact ⟨rfl, (((Gr.refl w).alloc _).alloc _).trans hg⟩
end Go.Proofs.YtomhekohcadijaaGreatDoor
namespace Go.Proofs.YtomhekohcadijaaGreatDoor
open Go.RowKit

theorem cmp_neg : ∀ (a b : List UInt8), Lib.compareBytes b a = - Lib.compareBytes a b
  | [], [] => rfl
  | [], _ :: _ => rfl
  | _ :: _, [] => rfl
  | a :: xs, b :: ys => by
    simp only [Lib.compareBytes]
    by_cases h1 : a < b
    · have h2 : ¬ b < a := fun h => UInt8.lt_irrefl a (UInt8.lt_trans h1 h)
      simp [h1, h2]
    · by_cases h2 : b < a
      · simp [h1, h2]
      · simp [h1, h2, cmp_neg xs ys]
theorem cmpS_neg (a b : ByteArray) : cmpS b a = - cmpS a b := cmp_neg _ _
theorem cmpR_neg (a b : Rl) : cmpR b a = - cmpR a b := by
  unfold cmpR orI
  rw [cmpS_neg a.o b.o, cmpS_neg a.n b.n]
  by_cases h : cmpS a.o b.o = 0
  · rw [if_pos (by omega), if_pos h]
  · rw [if_neg (by omega), if_neg h]
theorem less_no {a b : Rl} (h : lessR b a = true) : lessR a b = false := by
  simp only [lessR, decide_eq_true_iff, decide_eq_false_iff_not] at h ⊢
  have := cmpR_neg a b
  omega
theorem eqSt_self (s : St) : eqSt s s = true := by simp [eqSt]
end Go.Proofs.YtomhekohcadijaaGreatDoor
namespace Go.Proofs.YtomhekohcadijaaGreatDoor

structure WCmp {α : Type} (c : α → α → Int) : Prop where
  neg : ∀ x y, c y x = - c x y
  le : ∀ x y z, c x y ≤ 0 → c y z ≤ 0 → c x z ≤ 0 ∧ (c x z = 0 → c x y = 0 ∧ c y z = 0)
theorem WCmp.on {α β : Type} {c : α → α → Int} (h : WCmp c) (f : β → α) : WCmp (fun x y => c (f x) (f y)) := ⟨fun _ _ => h.neg _ _, fun _ _ _ => h.le _ _ _⟩
theorem WCmp.or {α : Type} {c d : α → α → Int} (h : WCmp c) (h' : WCmp d) : WCmp (fun x y => orI (c x y) (d x y)) := by
  refine ⟨fun x y => ?_, fun x y z => ?_⟩
  · have := h.neg x y; have := h'.neg x y
    unfold orI; split <;> split <;> omega
  · intro h1 h2
    have a1 : c x y ≤ 0 := by unfold orI at h1; split at h1 <;> omega
    have a2 : c y z ≤ 0 := by unfold orI at h2; split at h2 <;> omega
    obtain ⟨b1, b2⟩ := h.le x y z a1 a2
    by_cases h0 : c x z = 0
    · obtain ⟨e1, e2⟩ := b2 h0
      rw [orI_yes e1] at h1 ⊢
      rw [orI_yes e2] at h2 ⊢
      rw [orI_yes h0]
      exact h'.le x y z h1 h2
    · rw [orI_no h0]
      exact ⟨b1, fun e => absurd e h0⟩
theorem wcmp_int : WCmp cmpI := by
  refine ⟨fun x y => ?_, fun x y z => ?_⟩
  · unfold cmpI; split <;> split <;> (try split) <;> omega
  · unfold cmpI
    intro h1 h2
    split at h1 <;> split at h2 <;> (try split at h1) <;> (try split at h2) <;> (constructor <;> (try split) <;> (try split) <;> omega)
theorem cb_lt {a b : UInt8} (xs ys : List UInt8) (h : a.toNat < b.toNat) : Lib.compareBytes (a :: xs) (b :: ys) = -1 := by
  simp only [Lib.compareBytes]; rw [if_pos (UInt8.lt_iff_toNat_lt.2 h)]
theorem cb_gt {a b : UInt8} (xs ys : List UInt8) (h : b.toNat < a.toNat) : Lib.compareBytes (a :: xs) (b :: ys) = 1 := by
  simp only [Lib.compareBytes]; rw [if_neg (fun h' => by have := UInt8.lt_iff_toNat_lt.1 h'; omega), if_pos (UInt8.lt_iff_toNat_lt.2 h)]
theorem cb_eq (a : UInt8) (xs ys : List UInt8) : Lib.compareBytes (a :: xs) (a :: ys) = Lib.compareBytes xs ys := by
  simp only [Lib.compareBytes]; rw [if_neg (UInt8.lt_irrefl a), if_neg (UInt8.lt_irrefl a)]
theorem cmpB_le : ∀ (a b c : List UInt8), Lib.compareBytes a b ≤ 0 → Lib.compareBytes b c ≤ 0 → Lib.compareBytes a c ≤ 0 ∧ (Lib.compareBytes a c = 0 → Lib.compareBytes a b = 0 ∧ Lib.compareBytes b c = 0)
  | [], [], c, _, h2 => ⟨h2, fun h => ⟨rfl, h⟩⟩
  | [], y :: ys, [], h1, h2 => by simp [Lib.compareBytes] at h2
  | [], y :: ys, z :: zs, h1, h2 => by simp [Lib.compareBytes]
  | x :: xs, [], c, h1, h2 => by simp [Lib.compareBytes] at h1
  | x :: xs, y :: ys, [], h1, h2 => by simp [Lib.compareBytes] at h2
  | x :: xs, y :: ys, z :: zs, h1, h2 => by
    have ih := cmpB_le xs ys zs
    rcases Nat.lt_trichotomy x.toNat y.toNat with a1 | a1 | a1
    · rcases Nat.lt_trichotomy y.toNat z.toNat with b1 | b1 | b1
      · rw [cb_lt xs zs (Nat.lt_trans a1 b1)]; exact ⟨by omega, fun h => by omega⟩
      · rw [cb_lt xs zs (by omega)]; exact ⟨by omega, fun h => by omega⟩
      · rw [cb_gt ys zs b1] at h2; omega
    · obtain rfl := UInt8.toNat_inj.1 a1
      rcases Nat.lt_trichotomy x.toNat z.toNat with b1 | b1 | b1
      · rw [cb_lt xs zs b1]; exact ⟨by omega, fun h => by omega⟩
      · obtain rfl := UInt8.toNat_inj.1 b1
        rw [cb_eq] at h1 h2
        rw [cb_eq, cb_eq, cb_eq]
        exact ih h1 h2
      · rw [cb_gt ys zs b1] at h2; omega
    · rw [cb_gt xs ys a1] at h1; omega
theorem wcmp_str : WCmp cmpS := ⟨cmpS_neg, fun _ _ _ => cmpB_le _ _ _⟩
theorem wcmp_rl : WCmp cmpR := (wcmp_str.on Rl.o).or (wcmp_str.on Rl.n)
theorem orL_one (x : Int) : orL [x] = x := by
  by_cases h : x = 0
  · rw [orL_yes h, h]; rfl
  · rw [orL_no h]
theorem orL_cons (x : Int) (r : List Int) : orL (x :: r) = orI x (orL r) := rfl
theorem orL_last (x : Int) : orI x (orL []) = x := orL_one x
theorem cmpSt_def (x y : St) : cmpSt x y = orI (cmpR x.h y.h) (orI (cmpI x.k y.k) (orI (cmpS x.who y.who) (orI (cmpR x.a y.a) (orI (cmpR x.b y.b) (cmpS x.via y.via))))) := by
  simp only [cmpSt, orL_cons, orL_last]
theorem wcmp_st : WCmp cmpSt := by
  have h := (wcmp_rl.on St.h).or ((wcmp_int.on St.k).or ((wcmp_str.on St.who).or ((wcmp_rl.on St.a).or ((wcmp_rl.on St.b).or (wcmp_str.on St.via)))))
  have e : cmpSt = fun x y => orI (cmpR x.h y.h) (orI (cmpI x.k y.k) (orI (cmpS x.who y.who) (orI (cmpR x.a y.a) (orI (cmpR x.b y.b) (cmpS x.via y.via))))) := by
    funext x y
    exact cmpSt_def x y
  rw [e]; exact h
theorem orI_zero {x y : Int} : orI x y = 0 ↔ x = 0 ∧ y = 0 := by
  unfold orI; split <;> omega
theorem cmpI_zero (x y : Int) : cmpI x y = 0 ↔ x = y := by unfold cmpI; split <;> (try split) <;> omega
theorem cmpR_zero (x y : Rl) : cmpR x y = 0 ↔ x = y := by
  obtain ⟨a, b⟩ := x; obtain ⟨c, d⟩ := y
  simp only [cmpR, orI_zero, cmpS_zero, Rl.mk.injEq]
theorem cmpSt_zero (x y : St) : cmpSt x y = 0 ↔ x = y := by
  obtain ⟨k, h, who, a, b, via⟩ := x; obtain ⟨k', h', who', a', b', via'⟩ := y
  simp only [cmpSt_def, orI_zero, cmpR_zero, cmpS_zero, cmpI_zero, St.mk.injEq]
  constructor
  · rintro ⟨a, b, c, d, e, f⟩; exact ⟨b, a, c, d, e, f⟩
  · rintro ⟨a, b, c, d, e, f⟩; exact ⟨b, a, c, d, e, f⟩
theorem lt_trans' {x y z : St} (h : cmpSt x y < 0) (h' : cmpSt y z < 0) : cmpSt x z < 0 := by
  obtain ⟨a, b⟩ := wcmp_st.le x y z (by omega) (by omega)
  have : ¬ cmpSt x z = 0 := fun e => by have := (b e).1; omega
  omega
theorem lt_irrefl' (x : St) : ¬ cmpSt x x < 0 := by have := (cmpSt_zero x x).2 rfl; omega

def Asc (l : List St) : Prop := l.Pairwise fun x y => cmpSt x y < 0
theorem asc_unique : ∀ (l m : List St), Asc l → Asc m → (∀ x, x ∈ l ↔ x ∈ m) → l = m
  | [], [], _, _, _ => rfl
  | [], y :: m, _, _, h => absurd ((h y).2 (by simp)) (by simp)
  | x :: l, [], _, _, h => absurd ((h x).1 (by simp)) (by simp)
  | x :: l, y :: m, hl, hm, h => by
    have hl' := List.pairwise_cons.1 hl
    have hm' := List.pairwise_cons.1 hm
    have e : x = y := by
      rcases List.mem_cons.1 ((h x).1 (by simp)) with e | e
      · exact e
      · rcases List.mem_cons.1 ((h y).2 (by simp)) with e' | e'
        · exact e'.symm
        · exact absurd (lt_trans' (hm'.1 x e) (hl'.1 y e')) (lt_irrefl' y)
    subst e
    refine congrArg (x :: ·) (asc_unique l m hl'.2 hm'.2 fun z => ?_)
    constructor
    · intro hz
      rcases List.mem_cons.1 ((h z).1 (by simp [hz])) with e | e
      · subst e; exact absurd (hl'.1 z hz) (lt_irrefl' z)
      · exact e
    · intro hz
      rcases List.mem_cons.1 ((h z).2 (by simp [hz])) with e | e
      · subst e; exact absurd (hm'.1 z hz) (lt_irrefl' z)
      · exact e

def dedup : List St → List St
  | [] => []
  | [x] => [x]
  | x :: y :: r => if x = y then dedup (y :: r) else x :: dedup (y :: r)
theorem dedup_mem : ∀ (l : List St) (z : St), z ∈ dedup l ↔ z ∈ l
  | [], z => by simp [dedup]
  | [x], z => by simp [dedup]
  | x :: y :: r, z => by
    have ih := dedup_mem (y :: r) z
    unfold dedup
    by_cases e : x = y
    · rw [if_pos e, ih, e]; simp
    · rw [if_neg e, List.mem_cons, ih, List.mem_cons (b := x)]
theorem dedup_asc : ∀ (l : List St), (l.Pairwise fun x y => cmpSt x y ≤ 0) → Asc (dedup l)
  | [], _ => List.Pairwise.nil
  | [x], _ => by simp [dedup, Asc]
  | x :: y :: r, h => by
    have h' := List.pairwise_cons.1 h
    have ih := dedup_asc (y :: r) h'.2
    unfold dedup
    by_cases e : x = y
    · rw [if_pos e]; exact ih
    · rw [if_neg e]
      refine List.pairwise_cons.2 ⟨fun z hz => ?_, ih⟩
      have hxy : cmpSt x y < 0 := by
        have := h'.1 y (by simp)
        have h0 : ¬ cmpSt x y = 0 := fun e' => e ((cmpSt_zero x y).1 e')
        omega
      have hz' := (dedup_mem (y :: r) z).1 hz
      rcases List.mem_cons.1 hz' with rfl | hz'
      · exact hxy
      · have hyz := (List.pairwise_cons.1 h'.2).1 z hz'
        obtain ⟨a, b⟩ := wcmp_st.le x y z (by omega) hyz
        have : ¬ cmpSt x z = 0 := fun e => by have := (b e).1; omega
        omega
end Go.Proofs.YtomhekohcadijaaGreatDoor
namespace Go.Proofs.YtomhekohcadijaaGreatDoor
open Go.RowKit Go.Shelf

theorem rolesS_two {s : St} (h : s.k = 2 ∨ s.k = 3) : rolesS s = [s.h, s.a] := by unfold rolesS; rw [if_pos h]
theorem rolesS_three {s : St} (h : s.k = 4) : rolesS s = [s.h, s.a, s.b] := by unfold rolesS; rw [if_neg (by omega), if_pos h]
theorem rolesS_one {s : St} (h : ¬ s.k = 2) (h3 : ¬ s.k = 3) (h4 : ¬ s.k = 4) : rolesS s = [s.h] := by unfold rolesS; rw [if_neg (by omega), if_neg h4]
theorem Sl.new (w : World) (cs : List Value) (t : TypeId) (size n g : Nat) (hg : g = w.heap.size) (hl : cs.length = n * size) (hm : n ≤ maxLen) :
    Sl (w.alloc (.cells cs.toArray t)) size (.slice (some ⟨g, 0, none⟩) n n) n cs := by
  subst hg
  refine ⟨hl, hm, .inr ⟨w.heap.size, 0, n, rfl, Nat.le_refl _, hm, by simp, fun j u hu => ?_⟩⟩
  rw [(Blk.new w cs.toArray t).1]
  simpa using hu

set_option maxRecDepth 100000 in
set_option maxHeartbeats 4000000 in
theorem syn_Roles (s : St) (w : World) :
    Calls Tryz.prog 255 #[sv s] w fun e w' => ∃ v, e = .returned v ∧ Sl w' 2 v (rolesS s).length ((rolesS s).flatMap Rl.cells) ∧ Below w.heap.size w w' := by
  obtain ⟨k, ⟨h1, h2⟩, who, ⟨a1, a2⟩, ⟨b1, b2⟩, via⟩ := s
  by_cases k2 : k = 2
  · subst k2
    rw [rolesS_two (.inl rfl)]
    go_enter Tryz.func255, Tryz.ntmps255
    go_wp2
    go_ret
    refine ⟨.slice (some ⟨w.heap.size + 1, 0, none⟩) 2 2, rfl, Sl.new _ [.string h1, .string h2, .string a1, .string a2] _ 2 2 (w.heap.size + 1) (by simp) rfl (by simp [maxLen]), ((Below.refl _ _).alloc (Nat.le_refl _) _).alloc (by simp) _⟩
  by_cases k3 : k = 3
  · subst k3
    rw [rolesS_two (.inr rfl)]
    go_enter Tryz.func255, Tryz.ntmps255
    go_wp2
    go_ret
    refine ⟨.slice (some ⟨w.heap.size + 1, 0, none⟩) 2 2, rfl, Sl.new _ [.string h1, .string h2, .string a1, .string a2] _ 2 2 (w.heap.size + 1) (by simp) rfl (by simp [maxLen]), ((Below.refl _ _).alloc (Nat.le_refl _) _).alloc (by simp) _⟩
  by_cases k4 : k = 4
  · subst k4
    rw [rolesS_three rfl]
    go_enter Tryz.func255, Tryz.ntmps255
    go_wp2
    go_ret
    refine ⟨.slice (some ⟨w.heap.size + 1, 0, none⟩) 3 3, rfl, Sl.new _ [.string h1, .string h2, .string a1, .string a2, .string b1, .string b2] _ 2 3 (w.heap.size + 1) (by simp) rfl (by simp [maxLen]), ((Below.refl _ _).alloc (Nat.le_refl _) _).alloc (by simp) _⟩
  have q2 : (k == 2) = false := by rw [beq_eq_false_iff_ne]; exact k2
  have q3 : (k == 3) = false := by rw [beq_eq_false_iff_ne]; exact k3
  have q4 : (k == 4) = false := by rw [beq_eq_false_iff_ne]; exact k4
  rw [rolesS_one k2 k3 k4]
  clear k2 k3 k4
  go_enter Tryz.func255, Tryz.ntmps255
  go_wp2
  go_ret
  refine ⟨.slice (some ⟨w.heap.size + 1, 0, none⟩) 1 1, rfl, Sl.new _ [.string h1, .string h2] _ 2 1 (w.heap.size + 1) (by simp) rfl (by simp [maxLen]), ((Below.refl _ _).alloc (Nat.le_refl _) _).alloc (by simp) _⟩

theorem rl_cell {w : World} {b off : Nat} {l : List Rl} (h : ∀ j u, (l.flatMap Rl.cells)[j]? = some u → w.cell? ⟨b, off + j, none⟩ = some u) (k : Nat) (hk : k < l.length) :
    w.cell? ⟨b, off + k * 2, none⟩ = some (.string l[k].o) ∧ w.cell? ⟨b, off + k * 2 + 1, none⟩ = some (.string l[k].n) := by
  have hx : l[k]? = some l[k] := List.getElem?_eq_getElem hk
  have h0 := h _ _ ((flat_get Rl.cells 2 Rl.cells_len l k 0 (by omega) _ hx).trans rfl)
  have h1 := h _ _ ((flat_get Rl.cells 2 Rl.cells_len l k 1 (by omega) _ hx).trans rfl)
  exact ⟨h0, h1⟩
end Go.Proofs.YtomhekohcadijaaGreatDoor
